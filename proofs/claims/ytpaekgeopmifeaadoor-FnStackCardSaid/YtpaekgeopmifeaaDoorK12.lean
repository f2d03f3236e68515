/- Contracts: spec.UtfOk, impl.UtfOk. Contracts: impl.ShapeOk. Contracts: the laws' own helpers for bytes. The type Data as plain data; contracts of the laws' own helpers for it. Written by gen.py. The type Export as plain data; contracts of the laws' own helpers for it. Written by gen.py. The type Func as plain data; contracts of the laws' own helpers for it. Written by gen.py. The type Global as plain data; contracts of the laws' own helpers for it. Written by gen.py. The type Import as plain data; contracts of the laws' own helpers for it. Written by gen.py. The type Sig as plain data; contracts of the laws' own helpers for it. Written by gen.py. The type Module as plain data; contracts of the laws' own helpers for it. Written by gen.py. The type Case as plain data; contracts of the laws' own helpers for it. Written by gen.py. Contracts: lines, names, CaseOk, both sides. -/
import Derived.Test.YtpaekgeopmifeaaDoorK11
import Derived.Test.YtpaekgeopmifeaaDoorK08
import Derived.Test.YtpaekgeopmifeaaDoorK04
import Derived.Test.YtpaekgeopmifeaaDoorK02
import Derived.Test.YtpaekgeopmifeaaDoorK09
import Derived.Test.YtpaekgeopmifeaaDoorK03
namespace Go.Proofs.YtpaekgeopmifeaaDoor
attribute [local go_sem ↓] Go.wp_at_zero Go.wp_at_succ
open Go.RowKit
open Rep (Is sz)

theorem charM_le (l : List UInt8) : charM l ≤ l.length := by
  cases l with
  | nil => exact Nat.le_refl 0
  | cons x r =>
    rw [charM_cons]
    split
    · simp
    · split
      · omega
      · rename_i h
        rw [List.length_cons]
        unfold charEnd
        split
        · omega
        · split <;> omega
def utfB (s : ByteArray) : Bool := Lib.validD s.data.toList
set_option maxRecDepth 100000 in
theorem sutf (s : ByteArray) (w : World) (hs : s.size ≤ 1099511627776) : Calls Tryd.prog 63 #[.string s] w fun e w' => e = .returned (.bool (utfB s)) ∧ Step w w' := by
  go_enter Tryd.func63, Tryd.ntmps63
  go_wp2
  go_loopw [3] (fun i wr => ∃ k : Nat, k ≤ s.size ∧ i = .int .i64 k ∧ Step w wr ∧ Hid (utfB s = Lib.validD (s.data.toList.drop k))) (fun i _ => s.size - (intOf i).toNat)
  case atStart => exact ⟨0, by omega, rfl, mkStep, hid rfl⟩
  case round =>
    obtain ⟨k, hk, rfl, st, heq⟩ := hrel
    by_cases hlt : k < s.size
    · have hne : s.data.toList.drop k ≠ [] := List.length_pos_iff.1 (by rw [List.length_drop, bsz]; omega)
      have hv := valid_char _ hne
      have hc1 := charM_le (s.data.toList.drop k)
      rw [List.length_drop, bsz] at hc1
      obtain ⟨c, hc⟩ : ∃ c, c = charM (s.data.toList.drop k) := ⟨_, rfl⟩
      rw [← hc] at hv hc1
      replace hc := hid hc
      clear hne
      by_cases h0 : c = 0
      · have hr := hid (show utfB s = false by rw [heq.out, hv, if_pos h0])
        have f0 : ((c : Int) == 0) = true := by rw [h0]; rfl
        clear hv h0
        go_wp2_with fail
        with_reducible refine Calls.mono (schar _ _ _ hlt hs) ?_
        rintro e wk ⟨rfl, st2⟩
        rw [← hc.out]
        go_wp2
        go_ret
        exact ⟨by rw [hr.out]; rfl, mkStep⟩
      · have hr := hid (show utfB s = Lib.validD (s.data.toList.drop (k + c)) by rw [heq.out, hv, if_neg h0, List.drop_drop])
        have f0 : ((c : Int) == 0) = false := beq_eq_false_iff_ne.2 (by omega)
        clear hv
        have h0' : 0 < c := by omega
        clear h0
        go_wp2_with fail
        with_reducible refine Calls.mono (schar _ _ _ hlt hs) ?_
        rintro e wk ⟨rfl, st2⟩
        rw [← hc.out]
        go_wp2
        go_roundw
        case rel => exact ⟨k + c, by omega, by go_num, mkStep, hr⟩
        case measure => simp [intOf]; omega
    · have hr := hid (show utfB s = true by rw [heq.out, List.drop_of_length_le (by rw [bsz]; omega)]; rfl)
      go_wp2
      go_ret
      exact ⟨by rw [hr.out]; rfl, mkStep⟩
end Go.Proofs.YtpaekgeopmifeaaDoor
namespace Go.Proofs.YtpaekgeopmifeaaDoor
attribute [local go_sem ↓] Go.wp_at_zero Go.wp_at_succ
open Go.RowKit
open Rep (Is sz)

def notz (n : Int) : Bool := decide (¬ n = 0)
set_option maxHeartbeats 4000000 in
theorem ishape {F : List Nat} {v : Value} (l : List InsD) (w : World) (hl : l.length ≤ 1048576) [h : Shows w F l [v]] :
    Calls Tryd.prog 34 #[v] w fun e w' => e = .returned (.bool (shapeB l)) ∧ Step w w' := by
  obtain ⟨a, cap0, cl, FF, hv, _, hvw, hr, hml⟩ := list_open h.is
  cases hv
  clear h
  unfold maxLen at hml
  go_enter Tryd.func34, Tryd.ntmps34
  go_wp2
  go_loopw [3, 10] (fun o i wr => ∃ (k : Nat) (ao : Option Addr) (cap : Nat) (os : List Int), k ≤ l.length ∧ i = .int .i64 k ∧ o = .slice ao os.length cap ∧ os.length ≤ k ∧ Step w wr ∧ wr.ownsRow w.heap.size 3 1 (.slice ao os.length cap) os.length (os.map fun n => .int .i64 n) ∧ Hid (shapeB l = shGo (os.map notz) (l.drop k))) (fun _ i _ => l.length - (intOf i).toNat)
  case atStart => exact ⟨0, _, _, [], by omega, rfl, rfl, by simp, mkStep, ⟨rfl, .inl ⟨rfl, rfl⟩⟩, hid rfl⟩
  case round =>
    obtain ⟨k, ao, cap, os, hk, rfl, rfl, hos, st, hown, heq⟩ := hrel
    by_cases hlt : k < l.length
    · have hon : ∀ t, shStep (os.map notz) l[k].op = some t → shapeB l = shGo t (l.drop (k + 1)) := fun t q => heq.out.trans (shGo_on hlt q)
      have hno : shStep (os.map notz) l[k].op = none → shapeB l = false := fun q => heq.out.trans (shGo_no hlt q)
      clear hk
      obtain ⟨b, o, G, cs, rfl, hG, hI, hc, ho⟩ := hvw.row hr rfl (by decide) k hlt
      have hI0 := hI
      obtain ⟨rfl, rfl, i0, i1, i2⟩ := ins_open hI0
      have ke : Known w _ l[k] _ := ⟨hI⟩
      have c0 := (hc 0 _ rfl).1
      replace c0 : w.cell? ⟨b, o + k * 3, none⟩ = _ := c0
      have c1 := (hc 1 _ rfl).1
      replace c1 : w.cell? ⟨b, o + k * 3 + 1, none⟩ = _ := c1
      have c2 := (hc 2 _ rfl).1
      replace c2 : w.cell? ⟨b, o + k * 3 + 2, none⟩ = _ := c2
      clear hc
      by_cases hk1 : kindOf l[k].op = 1
      · have hq := hid (hon _ (shape_begin hk1))
        have n5 : (l[k].op == 5) = false := by have := kind_cases l[k].op; exact beq_eq_false_iff_ne.2 (by omega)
        have n11 : (l[k].op == 11) = false := by have := kind_cases l[k].op; exact beq_eq_false_iff_ne.2 (by omega)
        by_cases h4 : l[k].op = 4
        · have n4 : (l[k].op == 4) = true := beq_iff_eq.2 h4
          have e1 : (os ++ [(1 : Int)]).length = os.length + 1 := by simp
          have e2 : os.map notz ++ [decide (l[k].op = 4)] = (os ++ [(1 : Int)]).map notz := by simp [notz, h4]
          rw [e2] at hq
          replace e2 := hid e2
          replace h4 := hid h4
          clear hon hno
          have nbx : NotIn wr.heap.size (blk ao) := ⟨fun hx => by have := (ownsRow_blk hown _ hx).2; omega⟩
          have sub1 : SubX w (blk ao) [] := ⟨fun x hx => .inr (ownsRow_blk hown x hx).1⟩
          go_wp2_with (first | (go_at_call 55; (with_reducible refine Calls.mono (ibegins ..) ?_); rintro e wk ⟨rfl, st2⟩) | (at_builtin; go_must (refine app_rowsY iv1 1 (fun _ => rfl) iv1_one rfl (.tmp 23) (.tmp 25) 33 rfl 3 (.int .i64 0) 8 Tryd.ints_tab w ao cap os (1 : Int) rfl (iv1_own (own_keep hown)) wk.heap.size 1 rfl (fun j u hj => by obtain ⟨rfl, rfl⟩ := iv1_at hj; exact ⟨by go_simp, by go_simp⟩) (by omega) ?_); intro ao1 cap1 w1 hown1 sx1 hb1))
          go_roundw
          case rel => exact ⟨k + 1, ao1, cap1, os ++ [(1 : Int)], by omega, by go_num, by rw [e1], by rw [e1]; omega, mkStep, by rw [e1, ← iv1_map]; exact hown1, hq⟩
          case measure => simp [intOf]; omega
        · have n4 : (l[k].op == 4) = false := beq_eq_false_iff_ne.2 h4
          have e1 : (os ++ [(0 : Int)]).length = os.length + 1 := by simp
          have e2 : os.map notz ++ [decide (l[k].op = 4)] = (os ++ [(0 : Int)]).map notz := by simp [notz, h4]
          rw [e2] at hq
          replace e2 := hid e2
          replace h4 := hid h4
          clear hon hno
          have nbx : NotIn wr.heap.size (blk ao) := ⟨fun hx => by have := (ownsRow_blk hown _ hx).2; omega⟩
          have sub1 : SubX w (blk ao) [] := ⟨fun x hx => .inr (ownsRow_blk hown x hx).1⟩
          go_wp2_with (first | (go_at_call 55; (with_reducible refine Calls.mono (ibegins ..) ?_); rintro e wk ⟨rfl, st2⟩) | (at_builtin; go_must (refine app_rowsY iv1 1 (fun _ => rfl) iv1_one rfl (.tmp 23) (.tmp 25) 33 rfl 3 (.int .i64 0) 8 Tryd.ints_tab w ao cap os (0 : Int) rfl (iv1_own (own_keep hown)) wk.heap.size 1 rfl (fun j u hj => by obtain ⟨rfl, rfl⟩ := iv1_at hj; exact ⟨by go_simp, by go_simp⟩) (by omega) ?_); intro ao1 cap1 w1 hown1 sx1 hb1))
          go_roundw
          case rel => exact ⟨k + 1, ao1, cap1, os ++ [(0 : Int)], by omega, by go_num, by rw [e1], by rw [e1]; omega, mkStep, by rw [e1, ← iv1_map]; exact hown1, hq⟩
          case measure => simp [intOf]; omega
      have hk0 : decide (kindOf l[k].op = 1) = false := decide_eq_false hk1
      by_cases h5 : l[k].op = 5
      · have n5 : (l[k].op == 5) = true := beq_iff_eq.2 h5
        have n11 : (l[k].op == 11) = false := beq_eq_false_iff_ne.2 (by omega)
        rcases nil_or_snoc os with rfl | ⟨os', x, rfl⟩
        · have hz := hid (hno (shape_else_no hk1 h5 (by simp)))
          replace h5 := hid h5
          clear hon hno
          simp only [List.length_nil] at hown ⊢
          go_wp2_with (first | (go_at_call 55; (with_reducible refine Calls.mono (ibegins ..) ?_); rintro e wk ⟨rfl, st⟩))
          go_ret
          exact ⟨by rw [hz.out]; rfl, mkStep⟩
        · obtain ⟨g, rfl, hg1, hg2⟩ := own_addr hown (by simp)
          have hown2 : wr.ownsRow w.heap.size 3 1 (.slice (some ⟨g, 0, none⟩) (os'.length + 1) cap) (os'.length + 1) ((os' ++ [x]).map fun n => .int .i64 n) := by simpa using hown
          obtain ⟨c9, f9⟩ := own_slot hown2 os'.length (by simp)
          replace c9 : wr.cell? ⟨g, os'.length, none⟩ = some (.int .i64 x) := by simpa using c9
          have og : Old g wr := ⟨hg2⟩
          have nw : NewB w g := ⟨hg1⟩
          have e1 : (os' ++ [x]).length = os'.length + 1 := by simp
          simp only [e1] at hos ⊢
          have nb : Arg g wr := ⟨hg2⟩
          by_cases hx : ¬ x = 0
          · have hq := hid (hon _ (by rw [List.map_append, List.map_singleton, show notz x = true from decide_eq_true hx]; exact shape_else hk1 h5))
            have n4 : (x == 0) = false := beq_eq_false_iff_ne.2 hx
            replace h5 := hid h5
            replace hx := hid hx
            clear hon hno hown e1
            go_wp2_with (first | (go_at_call 55; (with_reducible refine Calls.mono (ibegins ..) ?_); rintro e wk ⟨rfl, st⟩))
            have own9 := own_set os'.length (.int .i64 0) (own_keep (w := wk) hown2) (by omega)
            have e2 : ((os' ++ [x]).map fun n => Value.int .i64 n).set os'.length (.int .i64 0) = (os' ++ [0]).map fun n => Value.int .i64 n := by simp
            rw [e2] at own9
            have e1 : (os' ++ [(0 : Int)]).length = os'.length + 1 := by simp
            go_roundw
            case rel => exact ⟨k + 1, some ⟨g, 0, none⟩, cap, os' ++ [0], by omega, by go_num, by rw [e1], by rw [e1]; omega, mkStep, by rw [e1]; exact own9, by rw [List.map_append]; exact hq⟩
            case measure => simp [intOf]; omega
          · have hz := hid (hno (shape_else_no hk1 h5 (by simp [notz, hx])))
            have n4 : (x == 0) = true := beq_iff_eq.2 (Decidable.not_not.1 hx)
            replace h5 := hid h5
            replace hx := hid hx
            clear hon hno hown e1
            go_wp2_with (first | (go_at_call 55; (with_reducible refine Calls.mono (ibegins ..) ?_); rintro e wk ⟨rfl, st⟩))
            go_ret
            exact ⟨by rw [hz.out]; rfl, mkStep⟩
      have n5 : (l[k].op == 5) = false := beq_eq_false_iff_ne.2 h5
      by_cases h11 : l[k].op = 11
      · have n11 : (l[k].op == 11) = true := beq_iff_eq.2 h11
        rcases nil_or_snoc os with rfl | ⟨os', x, rfl⟩
        · have hz := hid (hno (shape_end_no hk1 h11))
          replace h11 := hid h11
          clear hon hno
          simp only [List.length_nil] at hown ⊢
          go_wp2_with (first | (go_at_call 55; (with_reducible refine Calls.mono (ibegins ..) ?_); rintro e wk ⟨rfl, st⟩))
          go_ret
          exact ⟨by rw [hz.out]; rfl, mkStep⟩
        · obtain ⟨g, rfl, hg1, hg2⟩ := own_addr hown (by simp)
          have hown2 := own_pre os'.length (show wr.ownsRow w.heap.size 3 1 (.slice (some ⟨g, 0, none⟩) (os'.length + 1) cap) (os'.length + 1) ((os' ++ [x]).map fun n => .int .i64 n) by simpa using hown) (by omega)
          have e2 : ((os' ++ [x]).map fun n => Value.int .i64 n).take (os'.length * 1) = os'.map fun n => Value.int .i64 n := by simp
          rw [e2] at hown2
          have hcap := ownsRow_cap hown
          unfold maxLen at hcap
          have e1 : (os' ++ [x]).length = os'.length + 1 := by simp
          simp only [e1] at hos hcap ⊢
          have hq := hid (hon _ (by rw [List.map_append, List.map_singleton]; exact shape_end hk1 h11))
          replace h11 := hid h11
          clear hon hno hown e1 e2
          go_wp2_with (first | (go_at_call 55; (with_reducible refine Calls.mono (ibegins ..) ?_); rintro e wk ⟨rfl, st⟩))
          go_roundw
          case rel => exact ⟨k + 1, some ⟨g, 0, none⟩, cap, os', by omega, by go_num, by go_num, by omega, mkStep, own_keep hown2, hq⟩
          case measure => simp [intOf]; omega
      have n11 : (l[k].op == 11) = false := beq_eq_false_iff_ne.2 h11
      have hq := hid (hon _ (shape_other hk1 h5 h11))
      clear hon hno
      go_wp2_with (first | (go_at_call 55; (with_reducible refine Calls.mono (ibegins ..) ?_); rintro e wk ⟨rfl, st⟩))
      go_roundw
      case rel => exact ⟨k + 1, ao, cap, os, by omega, by go_num, rfl, by omega, mkStep, own_keep hown, hq⟩
      case measure => simp [intOf]; omega
    · have hz := hid (show shapeB l = (os.map notz).isEmpty by rw [heq.out, List.drop_of_length_le (by omega)]; rfl)
      go_wp2
      go_ret
      exact ⟨ret_bool (by rw [hz.out]; simp), mkStep⟩
end Go.Proofs.YtpaekgeopmifeaaDoor
namespace Go.Proofs.YtpaekgeopmifeaaDoor
attribute [local go_sem ↓] Go.wp_at_zero Go.wp_at_succ
open Go.RowKit Go.ChangeShapes Go.WideShapes
open Rep (Is sz)

theorem Tryd.bytes_tab : Tryd.prog.underlying 22 = some (.slice 5) ∧ (Tryd.prog.info? 5).map (fun i => (i.zero, i.size, i.bytes)) = some (some (.int .u8 0), 1, 1) ∧ (Value.int .u8 0).cells.size = 1 ∧ 0 < 1 ∧ 0 < 1 :=
  ⟨by kernel_rfl, by kernel_rfl, rfl, by decide, by decide⟩
set_option maxRecDepth 10000 in
theorem opens_bytes : Opens Tryd.prog 22 (List UInt8) := opens_slice Tryd.underlying22 (by kernel_rfl) Nat.one_pos (opens_byte Tryd.underlying5 (by kernel_rfl))

end Go.Proofs.YtpaekgeopmifeaaDoor
namespace Go.Proofs.YtpaekgeopmifeaaDoor
attribute [local go_sem ↓] Go.wp_at_zero Go.wp_at_succ
open Go.RowKit Go.ChangeShapes Go.WideShapes
open Rep (Is sz)

@[ext] structure DataD where
  pos : Int
  bytes : List UInt8
  deriving DecidableEq

instance : Rep DataD := Rep.via fun r => (r.pos, r.bytes)

theorem data_open {w : World} {F : List Nat} {r : DataD} {cs : List Value} (h : Is w F r cs) :
    ∃ a1 k1 F1, cs = [.int .i64 r.pos, .slice a1 r.bytes.length k1] ∧ F1 = F ∧ Is w F1 r.bytes [.slice a1 r.bytes.length k1] ∧ In64 r.pos := by
  obtain ⟨_, F1, _, c1, rfl, rfl, ⟨rfl, rfl, i0⟩, h1⟩ := h
  obtain ⟨a1, k1, rfl⟩ := slice_form h1
  exact ⟨a1, k1, F1, rfl, by simp, h1, i0⟩

theorem data_shut {w : World} {F1 : List Nat} {r : DataD} {s1 : Value} (h1 : Is w F1 r.bytes [s1]) (i0 : In64 r.pos) : Is w (F1) r [.int .i64 r.pos, s1] := by
  have h : Is w ([] ++ (F1)) r [.int .i64 r.pos, s1] := ⟨[], _, [_], _, rfl, rfl, ⟨rfl, rfl, i0⟩, h1⟩
  simpa using h


def dataCost (r : DataD) : Nat := r.bytes.length
def datasCost (l : List DataD) : Nat := l.length + (l.map dataCost).sum



theorem Tryd.datas_tab : Tryd.prog.underlying 28 = some (.slice 90) ∧ (Tryd.prog.info? 90).map (fun i => (i.zero, i.size, i.bytes)) = some (some (.agg #[.int .i64 0, .slice none 0 0]), 2, 32) ∧ (.agg #[.int .i64 0, .slice none 0 0] : Value).cells.size = 2 ∧ 0 < 2 ∧ 0 < 32 :=
  ⟨by kernel_rfl, by kernel_rfl, rfl, by decide, by decide⟩
end Go.Proofs.YtpaekgeopmifeaaDoor
namespace Go.Proofs.YtpaekgeopmifeaaDoor
attribute [local go_sem ↓] Go.wp_at_zero Go.wp_at_succ
open Go.RowKit Go.ChangeShapes Go.WideShapes
open Rep (Is sz)

@[ext] structure ExportD where
  name : ByteArray
  kind : Int
  index : Int
  deriving DecidableEq

instance : Rep ExportD := Rep.via fun r => (r.name, r.kind, r.index)

theorem export_open {w : World} {F : List Nat} {r : ExportD} {cs : List Value} (h : Is w F r cs) :
    cs = [.string r.name, .int .i64 r.kind, .int .i64 r.index] ∧ F = [] ∧ OkS r.name ∧ In64 r.kind ∧ In64 r.index := by
  obtain ⟨_, _, _, _, rfl, rfl, ⟨rfl, rfl, i0⟩, _, _, _, _, rfl, rfl, ⟨rfl, rfl, i1⟩, ⟨rfl, rfl, i2⟩⟩ := h
  exact ⟨rfl, by simp, i0, i1, i2⟩

theorem export_shut {w : World} {r : ExportD}  (i0 : OkS r.name) (i1 : In64 r.kind) (i2 : In64 r.index) : Is w ([]) r [.string r.name, .int .i64 r.kind, .int .i64 r.index] := by
  have h : Is w ([] ++ ([] ++ ([]))) r [.string r.name, .int .i64 r.kind, .int .i64 r.index] := ⟨[], _, [_], _, rfl, rfl, ⟨rfl, rfl, i0⟩, ⟨[], _, [_], _, rfl, rfl, ⟨rfl, rfl, i1⟩, ⟨rfl, rfl, i2⟩⟩⟩
  simpa using h


def exportCost (r : ExportD) : Nat := r.name.size
def exportsCost (l : List ExportD) : Nat := l.length + (l.map exportCost).sum



theorem Tryd.exports_tab : Tryd.prog.underlying 27 = some (.slice 63) ∧ (Tryd.prog.info? 63).map (fun i => (i.zero, i.size, i.bytes)) = some (some (.agg #[.string ByteArray.empty, .int .i64 0, .int .i64 0]), 3, 32) ∧ (.agg #[.string ByteArray.empty, .int .i64 0, .int .i64 0] : Value).cells.size = 3 ∧ 0 < 3 ∧ 0 < 32 :=
  ⟨by kernel_rfl, by kernel_rfl, rfl, by decide, by decide⟩
end Go.Proofs.YtpaekgeopmifeaaDoor
namespace Go.Proofs.YtpaekgeopmifeaaDoor
attribute [local go_sem ↓] Go.wp_at_zero Go.wp_at_succ
open Go.RowKit Go.ChangeShapes Go.WideShapes
open Rep (Is sz)

@[ext] structure FuncD where
  sig : Int
  locals : Int
  body : List InsD
  deriving DecidableEq

instance : Rep FuncD := Rep.via fun r => (r.sig, r.locals, r.body)

theorem func_open {w : World} {F : List Nat} {r : FuncD} {cs : List Value} (h : Is w F r cs) :
    ∃ a1 k1 F1, cs = [.int .i64 r.sig, .int .i64 r.locals, .slice a1 r.body.length k1] ∧ F1 = F ∧ Is w F1 r.body [.slice a1 r.body.length k1] ∧ In64 r.sig ∧ In64 r.locals := by
  obtain ⟨_, _, _, _, rfl, rfl, ⟨rfl, rfl, i0⟩, _, F1, _, c1, rfl, rfl, ⟨rfl, rfl, i1⟩, h1⟩ := h
  obtain ⟨a1, k1, rfl⟩ := slice_form h1
  exact ⟨a1, k1, F1, rfl, by simp, h1, i0, i1⟩

theorem func_shut {w : World} {F1 : List Nat} {r : FuncD} {s1 : Value} (h1 : Is w F1 r.body [s1]) (i0 : In64 r.sig) (i1 : In64 r.locals) : Is w (F1) r [.int .i64 r.sig, .int .i64 r.locals, s1] := by
  have h : Is w ([] ++ ([] ++ (F1))) r [.int .i64 r.sig, .int .i64 r.locals, s1] := ⟨[], _, [_], _, rfl, rfl, ⟨rfl, rfl, i0⟩, ⟨[], _, [_], _, rfl, rfl, ⟨rfl, rfl, i1⟩, h1⟩⟩
  simpa using h


def funcCost (r : FuncD) : Nat := inssCost r.body
def funcsCost (l : List FuncD) : Nat := l.length + (l.map funcCost).sum



theorem Tryd.funcs_tab : Tryd.prog.underlying 25 = some (.slice 39) ∧ (Tryd.prog.info? 39).map (fun i => (i.zero, i.size, i.bytes)) = some (some (.agg #[.int .i64 0, .int .i64 0, .slice none 0 0]), 3, 40) ∧ (.agg #[.int .i64 0, .int .i64 0, .slice none 0 0] : Value).cells.size = 3 ∧ 0 < 3 ∧ 0 < 40 :=
  ⟨by kernel_rfl, by kernel_rfl, rfl, by decide, by decide⟩
end Go.Proofs.YtpaekgeopmifeaaDoor
namespace Go.Proofs.YtpaekgeopmifeaaDoor
attribute [local go_sem ↓] Go.wp_at_zero Go.wp_at_succ
open Go.RowKit Go.ChangeShapes Go.WideShapes
open Rep (Is sz)

@[ext] structure GlobalD where
  isMut : Bool
  init : Int
  deriving DecidableEq

instance : Rep GlobalD := Rep.via fun r => (r.isMut, r.init)

theorem global_open {w : World} {F : List Nat} {r : GlobalD} {cs : List Value} (h : Is w F r cs) :
    cs = [.bool r.isMut, .int .i64 r.init] ∧ F = [] ∧ In64 r.init := by
  obtain ⟨_, _, _, _, rfl, rfl, ⟨rfl, rfl⟩, ⟨rfl, rfl, i1⟩⟩ := h
  exact ⟨rfl, by simp, i1⟩

theorem global_shut {w : World} {r : GlobalD}  (i1 : In64 r.init) : Is w ([]) r [.bool r.isMut, .int .i64 r.init] := by
  have h : Is w ([] ++ ([])) r [.bool r.isMut, .int .i64 r.init] := ⟨[], _, [_], _, rfl, rfl, ⟨rfl, rfl⟩, ⟨rfl, rfl, i1⟩⟩
  simpa using h


def globalCost (_ : GlobalD) : Nat := 0
def globalsCost (l : List GlobalD) : Nat := l.length + (l.map globalCost).sum


theorem globalSum (l : List GlobalD) : (l.map globalCost).sum = 0 := by
  induction l with
  | nil => rfl
  | cons x l ih => rw [List.map_cons, List.sum_cons, ih]; rfl
theorem Tryd.globals_tab : Tryd.prog.underlying 26 = some (.slice 66) ∧ (Tryd.prog.info? 66).map (fun i => (i.zero, i.size, i.bytes)) = some (some (.agg #[.bool false, .int .i64 0]), 2, 16) ∧ (.agg #[.bool false, .int .i64 0] : Value).cells.size = 2 ∧ 0 < 2 ∧ 0 < 16 :=
  ⟨by kernel_rfl, by kernel_rfl, rfl, by decide, by decide⟩
end Go.Proofs.YtpaekgeopmifeaaDoor
namespace Go.Proofs.YtpaekgeopmifeaaDoor
attribute [local go_sem ↓] Go.wp_at_zero Go.wp_at_succ
open Go.RowKit Go.ChangeShapes Go.WideShapes
open Rep (Is sz)

@[ext] structure ImportD where
  mod : ByteArray
  name : ByteArray
  sig : Int
  deriving DecidableEq

instance : Rep ImportD := Rep.via fun r => (r.mod, r.name, r.sig)

theorem import_open {w : World} {F : List Nat} {r : ImportD} {cs : List Value} (h : Is w F r cs) :
    cs = [.string r.mod, .string r.name, .int .i64 r.sig] ∧ F = [] ∧ OkS r.mod ∧ OkS r.name ∧ In64 r.sig := by
  obtain ⟨_, _, _, _, rfl, rfl, ⟨rfl, rfl, i0⟩, _, _, _, _, rfl, rfl, ⟨rfl, rfl, i1⟩, ⟨rfl, rfl, i2⟩⟩ := h
  exact ⟨rfl, by simp, i0, i1, i2⟩

theorem import_shut {w : World} {r : ImportD}  (i0 : OkS r.mod) (i1 : OkS r.name) (i2 : In64 r.sig) : Is w ([]) r [.string r.mod, .string r.name, .int .i64 r.sig] := by
  have h : Is w ([] ++ ([] ++ ([]))) r [.string r.mod, .string r.name, .int .i64 r.sig] := ⟨[], _, [_], _, rfl, rfl, ⟨rfl, rfl, i0⟩, ⟨[], _, [_], _, rfl, rfl, ⟨rfl, rfl, i1⟩, ⟨rfl, rfl, i2⟩⟩⟩
  simpa using h


def importCost (r : ImportD) : Nat := r.mod.size + r.name.size
def importsCost (l : List ImportD) : Nat := l.length + (l.map importCost).sum



theorem Tryd.imports_tab : Tryd.prog.underlying 24 = some (.slice 86) ∧ (Tryd.prog.info? 86).map (fun i => (i.zero, i.size, i.bytes)) = some (some (.agg #[.string ByteArray.empty, .string ByteArray.empty, .int .i64 0]), 3, 40) ∧ (.agg #[.string ByteArray.empty, .string ByteArray.empty, .int .i64 0] : Value).cells.size = 3 ∧ 0 < 3 ∧ 0 < 40 :=
  ⟨by kernel_rfl, by kernel_rfl, rfl, by decide, by decide⟩
end Go.Proofs.YtpaekgeopmifeaaDoor
namespace Go.Proofs.YtpaekgeopmifeaaDoor
attribute [local go_sem ↓] Go.wp_at_zero Go.wp_at_succ
open Go.RowKit Go.ChangeShapes Go.WideShapes
open Rep (Is sz)

@[ext] structure SigD where
  params : Int
  results : Int
  deriving DecidableEq

instance : Rep SigD := Rep.via fun r => (r.params, r.results)

theorem sig_open {w : World} {F : List Nat} {r : SigD} {cs : List Value} (h : Is w F r cs) :
    cs = [.int .i64 r.params, .int .i64 r.results] ∧ F = [] ∧ In64 r.params ∧ In64 r.results := by
  obtain ⟨_, _, _, _, rfl, rfl, ⟨rfl, rfl, i0⟩, ⟨rfl, rfl, i1⟩⟩ := h
  exact ⟨rfl, by simp, i0, i1⟩

theorem sig_shut {w : World} {r : SigD}  (i0 : In64 r.params) (i1 : In64 r.results) : Is w ([]) r [.int .i64 r.params, .int .i64 r.results] := by
  have h : Is w ([] ++ ([])) r [.int .i64 r.params, .int .i64 r.results] := ⟨[], _, [_], _, rfl, rfl, ⟨rfl, rfl, i0⟩, ⟨rfl, rfl, i1⟩⟩
  simpa using h


def sigCost (_ : SigD) : Nat := 0
def sigsCost (l : List SigD) : Nat := l.length + (l.map sigCost).sum


theorem sigSum (l : List SigD) : (l.map sigCost).sum = 0 := by
  induction l with
  | nil => rfl
  | cons x l ih => rw [List.map_cons, List.sum_cons, ih]; rfl
theorem Tryd.sigs_tab : Tryd.prog.underlying 23 = some (.slice 69) ∧ (Tryd.prog.info? 69).map (fun i => (i.zero, i.size, i.bytes)) = some (some (.agg #[.int .i64 0, .int .i64 0]), 2, 16) ∧ (.agg #[.int .i64 0, .int .i64 0] : Value).cells.size = 2 ∧ 0 < 2 ∧ 0 < 16 :=
  ⟨by kernel_rfl, by kernel_rfl, rfl, by decide, by decide⟩
end Go.Proofs.YtpaekgeopmifeaaDoor
namespace Go.Proofs.YtpaekgeopmifeaaDoor
attribute [local go_sem ↓] Go.wp_at_zero Go.wp_at_succ
open Go.RowKit Go.ChangeShapes Go.WideShapes
open Rep (Is sz)

theorem notin2 {b1 b2 : Nat} {F : List Nat} [n1 : NotIn b1 F] [n2 : NotIn b2 F] : ∀ b ∈ F, b ∉ [b1, b2] := by
  intro b hb hm
  simp only [List.mem_cons, List.not_mem_nil, or_false] at hm
  rcases hm with rfl | rfl
  · exact n1.ne hb
  · exact n2.ne hb
@[ext] structure ModuleD where
  sigs : List SigD
  imports : List ImportD
  funcs : List FuncD
  pages : Int
  most : Int
  globals : List GlobalD
  exports : List ExportD
  data : List DataD
  deriving DecidableEq

instance : Rep ModuleD := Rep.via fun r => (r.sigs, r.imports, r.funcs, r.pages, r.most, r.globals, r.exports, r.data)

theorem module_open {w : World} {F : List Nat} {r : ModuleD} {cs : List Value} (h : Is w F r cs) :
    ∃ a1 k1 a2 k2 a3 k3 a4 k4 a5 k5 a6 k6 F1 F2 F3 F4 F5 F6, cs = [.slice a1 r.sigs.length k1, .slice a2 r.imports.length k2, .slice a3 r.funcs.length k3, .int .i64 r.pages, .int .i64 r.most, .slice a4 r.globals.length k4, .slice a5 r.exports.length k5, .slice a6 r.data.length k6] ∧ F = F1 ++ F2 ++ F3 ++ F4 ++ F5 ++ F6 ∧ Is w F1 r.sigs [.slice a1 r.sigs.length k1] ∧ Is w F2 r.imports [.slice a2 r.imports.length k2] ∧ Is w F3 r.funcs [.slice a3 r.funcs.length k3] ∧ Is w F4 r.globals [.slice a4 r.globals.length k4] ∧ Is w F5 r.exports [.slice a5 r.exports.length k5] ∧ Is w F6 r.data [.slice a6 r.data.length k6] ∧ In64 r.pages ∧ In64 r.most := by
  obtain ⟨F1, _, c1, _, rfl, rfl, h1, F2, _, c2, _, rfl, rfl, h2, F3, _, c3, _, rfl, rfl, h3, _, _, _, _, rfl, rfl, ⟨rfl, rfl, i3⟩, _, _, _, _, rfl, rfl, ⟨rfl, rfl, i4⟩, F4, _, c4, _, rfl, rfl, h4, F5, F6, c5, c6, rfl, rfl, h5, h6⟩ := h
  obtain ⟨a1, k1, rfl⟩ := slice_form h1
  obtain ⟨a2, k2, rfl⟩ := slice_form h2
  obtain ⟨a3, k3, rfl⟩ := slice_form h3
  obtain ⟨a4, k4, rfl⟩ := slice_form h4
  obtain ⟨a5, k5, rfl⟩ := slice_form h5
  obtain ⟨a6, k6, rfl⟩ := slice_form h6
  exact ⟨a1, k1, a2, k2, a3, k3, a4, k4, a5, k5, a6, k6, F1, F2, F3, F4, F5, F6, rfl, by simp, h1, h2, h3, h4, h5, h6, i3, i4⟩

theorem module_shut {w : World} {F1 F2 F3 F4 F5 F6 : List Nat} {r : ModuleD} {s1 s2 s3 s4 s5 s6 : Value} (h1 : Is w F1 r.sigs [s1]) (h2 : Is w F2 r.imports [s2]) (h3 : Is w F3 r.funcs [s3]) (h4 : Is w F4 r.globals [s4]) (h5 : Is w F5 r.exports [s5]) (h6 : Is w F6 r.data [s6]) (i3 : In64 r.pages) (i4 : In64 r.most) : Is w (F1 ++ F2 ++ F3 ++ F4 ++ F5 ++ F6) r [s1, s2, s3, .int .i64 r.pages, .int .i64 r.most, s4, s5, s6] := by
  have h : Is w (F1 ++ (F2 ++ (F3 ++ ([] ++ ([] ++ (F4 ++ (F5 ++ (F6)))))))) r [s1, s2, s3, .int .i64 r.pages, .int .i64 r.most, s4, s5, s6] := ⟨F1, _, [_], _, rfl, rfl, h1, ⟨F2, _, [_], _, rfl, rfl, h2, ⟨F3, _, [_], _, rfl, rfl, h3, ⟨[], _, [_], _, rfl, rfl, ⟨rfl, rfl, i3⟩, ⟨[], _, [_], _, rfl, rfl, ⟨rfl, rfl, i4⟩, ⟨F4, _, [_], _, rfl, rfl, h4, ⟨F5, _, [_], _, rfl, rfl, h5, h6⟩⟩⟩⟩⟩⟩⟩
  simpa using h


def moduleCost (r : ModuleD) : Nat := sigsCost r.sigs + importsCost r.imports + funcsCost r.funcs + globalsCost r.globals + exportsCost r.exports + datasCost r.data
def modulesCost (l : List ModuleD) : Nat := l.length + (l.map moduleCost).sum



end Go.Proofs.YtpaekgeopmifeaaDoor
namespace Go.Proofs.YtpaekgeopmifeaaDoor
attribute [local go_sem ↓] Go.wp_at_zero Go.wp_at_succ
open Go.RowKit Go.ChangeShapes Go.WideShapes
open Rep (Is sz)

@[ext] structure CaseD where
  name : ByteArray
  lines : List ByteArray
  input : List Int
  want : List ByteArray
  deriving DecidableEq

instance : Rep CaseD := Rep.via fun r => (r.name, r.lines, r.input, r.want)

theorem case_open {w : World} {F : List Nat} {r : CaseD} {cs : List Value} (h : Is w F r cs) :
    ∃ a1 k1 a2 k2 a3 k3 F1 F2 F3, cs = [.string r.name, .slice a1 r.lines.length k1, .slice a2 r.input.length k2, .slice a3 r.want.length k3] ∧ F = F1 ++ F2 ++ F3 ∧ Is w F1 r.lines [.slice a1 r.lines.length k1] ∧ Is w F2 r.input [.slice a2 r.input.length k2] ∧ Is w F3 r.want [.slice a3 r.want.length k3] ∧ OkS r.name := by
  obtain ⟨_, _, _, _, rfl, rfl, ⟨rfl, rfl, i0⟩, F1, _, c1, _, rfl, rfl, h1, F2, F3, c2, c3, rfl, rfl, h2, h3⟩ := h
  obtain ⟨a1, k1, rfl⟩ := slice_form h1
  obtain ⟨a2, k2, rfl⟩ := slice_form h2
  obtain ⟨a3, k3, rfl⟩ := slice_form h3
  exact ⟨a1, k1, a2, k2, a3, k3, F1, F2, F3, rfl, by simp, h1, h2, h3, i0⟩

theorem case_shut {w : World} {F1 F2 F3 : List Nat} {r : CaseD} {s1 s2 s3 : Value} (h1 : Is w F1 r.lines [s1]) (h2 : Is w F2 r.input [s2]) (h3 : Is w F3 r.want [s3]) (i0 : OkS r.name) : Is w (F1 ++ F2 ++ F3) r [.string r.name, s1, s2, s3] := by
  have h : Is w ([] ++ (F1 ++ (F2 ++ (F3)))) r [.string r.name, s1, s2, s3] := ⟨[], _, [_], _, rfl, rfl, ⟨rfl, rfl, i0⟩, ⟨F1, _, [_], _, rfl, rfl, h1, ⟨F2, _, [_], _, rfl, rfl, h2, h3⟩⟩⟩
  simpa using h


def caseCost (r : CaseD) : Nat := r.name.size + strsCost r.lines + r.input.length + strsCost r.want
def casesCost (l : List CaseD) : Nat := l.length + (l.map caseCost).sum



end Go.Proofs.YtpaekgeopmifeaaDoor
namespace Go.Proofs.YtpaekgeopmifeaaDoor
attribute [local go_sem ↓] Go.wp_at_zero Go.wp_at_succ
open Go.RowKit
open Rep (Is sz)

def cutGo (s : ByteArray) (b : UInt8) : Nat → Nat → Nat → List ByteArray
  | 0, from', _ => [s.extract from' s.size]
  | n + 1, from', k => if s.data.toList[k]? = some b then s.extract from' k :: cutGo s b n (k + 1) (k + 1) else cutGo s b n from' (k + 1)
def cutS (s : ByteArray) (b : UInt8) : List ByteArray := cutGo s b s.size 0 0

theorem cutGo_yes {s : ByteArray} {b : UInt8} {f k : Nat} (hk : k < s.size) (h : s[k] = b) : cutGo s b (s.size - k) f k = s.extract f k :: cutGo s b (s.size - (k + 1)) (k + 1) (k + 1) := by
  rw [show s.size - k = (s.size - (k + 1)) + 1 by omega, cutGo, if_pos (by rw [byte_at s k hk, h])]
theorem cutGo_no {s : ByteArray} {b : UInt8} {f k : Nat} (hk : k < s.size) (h : ¬ s[k] = b) : cutGo s b (s.size - k) f k = cutGo s b (s.size - (k + 1)) f (k + 1) := by
  rw [show s.size - k = (s.size - (k + 1)) + 1 by omega, cutGo, if_neg (by rw [byte_at s k hk]; exact fun e => h (Option.some.inj e))]

theorem cutGo_len (s : ByteArray) (b : UInt8) : ∀ n f k : Nat, 1 ≤ (cutGo s b n f k).length ∧ (1 < (cutGo s b n f k).length ↔ ∃ j, k ≤ j ∧ j < k + n ∧ s.data.toList[j]? = some b)
  | 0, f, k => ⟨by simp [cutGo], by simp [cutGo]; intros; omega⟩
  | n + 1, f, k => by
    unfold cutGo
    by_cases h : s.data.toList[k]? = some b
    · rw [if_pos h]
      have := (cutGo_len s b n (k + 1) (k + 1)).1
      exact ⟨by simp, by simp only [List.length_cons]; exact ⟨fun _ => ⟨k, by omega, by omega, h⟩, fun _ => by omega⟩⟩
    · rw [if_neg h]
      have h1 := cutGo_len s b n f (k + 1)
      refine ⟨h1.1, h1.2.trans ⟨fun ⟨j, a, c, d⟩ => ⟨j, by omega, by omega, d⟩, fun ⟨j, a, c, d⟩ => ⟨j, ?_, by omega, d⟩⟩⟩
      rcases Nat.eq_or_lt_of_le a with e | e
      · subst e; exact absurd d h
      · omega
theorem cutS_len (s : ByteArray) (b : UInt8) : 1 < (cutS s b).length ↔ s.data.toList.contains b = true := by
  unfold cutS
  rw [(cutGo_len s b s.size 0 0).2, List.contains_iff_mem, List.mem_iff_getElem?]
  constructor
  · rintro ⟨j, _, _, h⟩; exact ⟨j, h⟩
  · rintro ⟨j, h⟩
    have := (List.getElem?_eq_some_iff.1 h).1
    rw [bsz] at this
    exact ⟨j, by omega, by omega, h⟩
theorem ext_size (s : ByteArray) (a b : Nat) : (s.extract a b).size ≤ s.size := by
  rw [ByteArray.size_extract]; omega
theorem cutGo_size (s : ByteArray) (b : UInt8) : ∀ n f k : Nat, ∀ x ∈ cutGo s b n f k, x.size ≤ s.size
  | 0, f, k => by intro x hx; simp [cutGo] at hx; subst hx; exact ext_size _ _ _
  | n + 1, f, k => by
    intro x hx
    unfold cutGo at hx
    split at hx
    · rcases List.mem_cons.1 hx with rfl | h
      · exact ext_size _ _ _
      · exact cutGo_size s b n _ _ x h
    · exact cutGo_size s b n _ _ x hx
theorem cut_oks {s : ByteArray} {b : UInt8} {l : List ByteArray} (h : l = cutS s b) (hs : s.size ≤ 1048576 := by omega) : ∀ x ∈ l, OkS x := by
  subst h
  intro x hx
  have := cutGo_size s b _ _ _ x hx
  unfold OkS; omega



def lineB (s : ByteArray) : Bool := decide (s.size ≤ 200) && !(s.data.toList.contains 10)
def linesB (l : List ByteArray) : Bool := l.all lineB && decide (l.length ≤ 60)

theorem lineB_iff (s : ByteArray) : lineB s = true ↔ s.size ≤ 200 ∧ (cutS s 10).length ≤ 1 := by
  unfold lineB
  rw [Bool.and_eq_true, decide_eq_true_iff, Bool.not_eq_true', Bool.eq_false_iff, ne_eq, ← cutS_len, Nat.not_lt]

theorem all_no {α : Type} {p : α → Bool} {l : List α} {k : Nat} (hk : k < l.length) (h : p l[k] = false) : l.all p = false := by
  rw [Bool.eq_false_iff, ne_eq, List.all_eq_true]
  intro ha
  rw [ha _ (List.getElem_mem hk)] at h
  cases h
theorem all_yes {α : Type} {p : α → Bool} {l : List α} {k : Nat} (hk : l.length ≤ k) (h : ∀ j : Nat, j < k → ∀ x, l[j]? = some x → p x = true) : l.all p = true := by
  rw [List.all_eq_true]
  intro x hx
  obtain ⟨j, hj⟩ := List.mem_iff_getElem?.1 hx
  exact h j (by have := (List.getElem?_eq_some_iff.1 hj).1; omega) x hj
theorem all_step {α : Type} {p : α → Bool} {l : List α} {k : Nat} (hk : k < l.length) (hp : p l[k] = true) (h : ∀ j : Nat, j < k → ∀ x, l[j]? = some x → p x = true) : ∀ j : Nat, j < k + 1 → ∀ x, l[j]? = some x → p x = true := by
  intro j hj c hc
  rcases Nat.lt_or_ge j k with h1 | h1
  · exact h j h1 c hc
  · obtain rfl : j = k := by omega
    rw [List.getElem?_eq_getElem hk] at hc
    rw [← Option.some.inj hc]
    exact hp


theorem idx_no (l : List UInt8) (c : UInt8) : Lib.indexByte l c < 0 ↔ l.contains c = false := by
  rw [Bool.eq_false_iff, ne_eq, List.contains_iff_mem, List.mem_iff_getElem?]
  constructor
  · intro h ⟨j, hj⟩
    have := Lib.indexByte_ge l c
    exact Lib.indexByte_none (by omega) j hj
  · intro h
    by_cases h1 : Lib.indexByte l c < 0
    · exact h1
    · obtain ⟨o, ho⟩ := Int.eq_ofNat_of_zero_le (Int.not_lt.1 h1)
      exact absurd ⟨o, (Lib.indexByte_some ho).1⟩ h


def nameB (s : ByteArray) : Bool := wordS s && decide (s.size ≤ 12) && !memS wordsL s
end Go.Proofs.YtpaekgeopmifeaaDoor
