/- The type Tok as plain data; contracts of the laws' own helpers for it. Written by gen.py. -/
import Derived.Test.YtmepniddkajckaaDoorHelp
namespace Go.Proofs.YtmepniddkajckaaDoor
attribute [local go_sem ↓] Go.wp_at_zero Go.wp_at_succ
open Go.RowKit Go.ChangeShapes Go.WideShapes
open Rep (Is sz)

@[ext] structure TokD where
  kind : Int
  n : Int
  s : ByteArray
  pos : Int
  deriving DecidableEq

instance : Rep TokD := Rep.via fun r => (r.kind, r.n, r.s, r.pos)

theorem tok_open {w : World} {F : List Nat} {r : TokD} {cs : List Value} (h : Is w F r cs) :
    cs = [.int .i64 r.kind, .int .i64 r.n, .string r.s, .int .i64 r.pos] ∧ F = [] ∧ In64 r.kind ∧ In64 r.n ∧ OkS r.s ∧ In64 r.pos := by
  obtain ⟨_, _, _, _, rfl, rfl, ⟨rfl, rfl, i0⟩, _, _, _, _, rfl, rfl, ⟨rfl, rfl, i1⟩, _, _, _, _, rfl, rfl, ⟨rfl, rfl, i2⟩, ⟨rfl, rfl, i3⟩⟩ := h
  exact ⟨rfl, by simp, i0, i1, i2, i3⟩

theorem tok_shut {w : World} {r : TokD}  (i0 : In64 r.kind) (i1 : In64 r.n) (i2 : OkS r.s) (i3 : In64 r.pos) : Is w ([]) r [.int .i64 r.kind, .int .i64 r.n, .string r.s, .int .i64 r.pos] := by
  have h : Is w ([] ++ ([] ++ ([] ++ ([])))) r [.int .i64 r.kind, .int .i64 r.n, .string r.s, .int .i64 r.pos] := ⟨[], _, [_], _, rfl, rfl, ⟨rfl, rfl, i0⟩, ⟨[], _, [_], _, rfl, rfl, ⟨rfl, rfl, i1⟩, ⟨[], _, [_], _, rfl, rfl, ⟨rfl, rfl, i2⟩, ⟨rfl, rfl, i3⟩⟩⟩⟩
  simpa using h

set_option maxRecDepth 10000 in
theorem opens_tok : Opens Tryd.prog 53 TokD := by
  refine Opens.via _ (fun y => ⟨y.1, y.2.1, y.2.2.1, y.2.2.2⟩) (fun _ => rfl) ?_
  refine opens_struct Tryd.underlying53 (by kernel_rfl) ⟨_, rfl, rfl⟩ ?_
  exact fields_cons _ _ rfl rfl rfl (opens_int Tryd.underlying3 (by kernel_rfl)) (fields_cons _ _ rfl rfl rfl (opens_int Tryd.underlying3 (by kernel_rfl)) (fields_cons _ _ rfl rfl rfl (opens_string Tryd.underlying9 (by kernel_rfl)) (fields_last _ rfl (opens_int Tryd.underlying3 (by kernel_rfl)))))

def tokCost (r : TokD) : Nat := r.s.size
def toksCost (l : List TokD) : Nat := l.length + (l.map tokCost).sum

theorem szTok {F : List Nat} {cs : List Value} (r : TokD) (left : Int) (w : World) (hl0 : 0 ≤ left) (hl1 : left ≤ 1048576) [h : Shows w F r cs] :
    Calls Tryd.prog 27 #[.agg cs.toArray, .int .i64 left] w fun e w' => e = .returned (.int .i64 (left0 left (tokCost r))) ∧ Step w w' := by
  obtain ⟨rfl, rfl, i0, i1, i2, i3⟩ := tok_open h.is
  have hc : tokCost r = r.s.size := rfl
  replace hc := hid hc
  clear h
  unfold OkS at i2
  go_enter Tryd.func27, Tryd.ntmps27
  by_cases c2 : left - (r.s.size : Nat) < 0
  · go_wp2
    go_ret
    exact ⟨by rw [hc.out, left0_neg (by omega)]; rfl, mkStep⟩
  go_wp2
  go_ret
  exact ⟨by rw [hc.out, left0_pos (by omega)]; exact ret_int (by omega), mkStep⟩

set_option maxHeartbeats 1000000 in
theorem eqTok {F G : List Nat} {cs ds : List Value} (r q : TokD) (w : World) [h : Shows w F r cs] [h' : Shows w G q ds] :
    Calls Tryd.prog 82 #[.agg cs.toArray, .agg ds.toArray] w fun e w' => e = .returned (.bool (decide (r = q))) ∧ Step w w' := by
  obtain ⟨rfl, rfl, i0, i1, i2, i3⟩ := tok_open h.is
  obtain ⟨rfl, rfl, j0, j1, j2, j3⟩ := tok_open h'.is
  have no : ∀ {p : Prop}, (r = q → p) → ¬ p → decide (r = q) = false := fun h1 h2 => decide_eq_false_iff_not.2 (fun e => h2 (h1 e))
  clear h h'
  go_enter Tryd.func82, Tryd.ntmps82
  by_cases c0 : r.kind = q.kind
  rotate_left
  · have hn := no (congrArg TokD.kind) c0
    replace hn := hid hn
    go_wp2
    go_ret
    exact ⟨by rw [hn.out]; rfl, mkStep⟩
  by_cases c1 : r.n = q.n
  rotate_left
  · have hn := no (congrArg TokD.n) c1
    replace hn := hid hn
    go_wp2
    go_ret
    exact ⟨by rw [hn.out]; rfl, mkStep⟩
  by_cases c2 : r.s = q.s
  rotate_left
  · have hn := no (congrArg TokD.s) c2
    replace hn := hid hn
    have e2 := str_no c2
    replace c2 := hid c2
    go_wp2
    go_ret
    exact ⟨by rw [hn.out]; rfl, mkStep⟩
  have e2 := str_yes c2
  replace c2 := hid c2
  by_cases c3 : r.pos = q.pos
  rotate_left
  · have hn := no (congrArg TokD.pos) c3
    replace hn := hid hn
    go_wp2
    go_ret
    exact ⟨by rw [hn.out]; rfl, mkStep⟩
  have hy : decide (r = q) = true := decide_eq_true_iff.2 (TokD.ext c0 c1 c2.out c3)
  replace hy := hid hy
  go_wp2
  go_ret
  exact ⟨by rw [hy.out]; rfl, mkStep⟩

set_option maxHeartbeats 1000000 in
theorem toTok {F : List Nat} {cs : List Value} (r : TokD) (w : World) (hb : tokCost r ≤ 1048576) [h : Shows w F r cs] :
    Calls Tryd.prog 29 #[.agg cs.toArray] w fun e w' => ∃  G, e = .returned (.agg #[.int .i64 r.kind, .int .i64 r.n, .string r.s, .int .i64 r.pos]) ∧ Known w' G r [.int .i64 r.kind, .int .i64 r.n, .string r.s, .int .i64 r.pos] ∧ NewF w G ∧ Step w w' := by
  obtain ⟨rfl, rfl, i0, i1, i2, i3⟩ := tok_open h.is
  have hc : tokCost r = r.s.size := rfl
  clear h hc hb
  go_enter Tryd.func29, Tryd.ntmps29
  go_wp2
  refine bodyPost_ret (v := .agg #[.int .i64 r.kind, .int .i64 r.n, .string r.s, .int .i64 r.pos]) (by simp [results, Tryd.results29, go_sem]) rfl ?_
  exact ⟨_, rfl, ⟨tok_shut i0 i1 i2 i3⟩, newf_nil _, mkStep⟩
end Go.Proofs.YtmepniddkajckaaDoor
