/- The type Case as plain data; contracts of the laws' own helpers for it. Written by gen.py. -/
import Derived.Test.YteeabcdibpnciaaDoorRow
namespace Go.Proofs.YteeabcdibpnciaaDoor
attribute [local go_sem ↓] Go.wp_at_zero Go.wp_at_succ
open Go.RowKit Go.ChangeShapes Go.WideShapes
open Rep (Is sz)

@[ext] structure CaseD where
  name : ByteArray
  lines : List ByteArray
  input : List Int
  want : List ByteArray
  deriving DecidableEq

instance : Rep CaseD := Rep.via fun r => (r.name, r.lines, r.input, r.want)

theorem case_open {w : World} {F : List Nat} {r : CaseD} {cs : List Value} (h : Is w F r cs) :
    ∃ a1 k1 a2 k2 a3 k3 F1 F2 F3, cs = [.string r.name, .slice a1 r.lines.length k1, .slice a2 r.input.length k2, .slice a3 r.want.length k3] ∧ F = F1 ++ F2 ++ F3 ∧ Is w F1 r.lines [.slice a1 r.lines.length k1] ∧ Is w F2 r.input [.slice a2 r.input.length k2] ∧ Is w F3 r.want [.slice a3 r.want.length k3] ∧ OkS r.name := by
  obtain ⟨_, _, _, _, rfl, rfl, ⟨rfl, rfl, i0⟩, F1, _, c1, _, rfl, rfl, h1, F2, F3, c2, c3, rfl, rfl, h2, h3⟩ := h
  obtain ⟨a1, k1, rfl⟩ := slice_form h1
  obtain ⟨a2, k2, rfl⟩ := slice_form h2
  obtain ⟨a3, k3, rfl⟩ := slice_form h3
  exact ⟨a1, k1, a2, k2, a3, k3, F1, F2, F3, rfl, by simp, h1, h2, h3, i0⟩

theorem case_shut {w : World} {F1 F2 F3 : List Nat} {r : CaseD} {s1 s2 s3 : Value} (h1 : Is w F1 r.lines [s1]) (h2 : Is w F2 r.input [s2]) (h3 : Is w F3 r.want [s3]) (i0 : OkS r.name) : Is w (F1 ++ F2 ++ F3) r [.string r.name, s1, s2, s3] := by
  have h : Is w ([] ++ (F1 ++ (F2 ++ (F3)))) r [.string r.name, s1, s2, s3] := ⟨[], _, [_], _, rfl, rfl, ⟨rfl, rfl, i0⟩, ⟨F1, _, [_], _, rfl, rfl, h1, ⟨F2, _, [_], _, rfl, rfl, h2, h3⟩⟩⟩
  simpa using h

set_option maxRecDepth 10000 in
theorem opens_case : Opens Tryd.prog 25 CaseD := by
  refine Opens.via _ (fun y => ⟨y.1, y.2.1, y.2.2.1, y.2.2.2⟩) (fun _ => rfl) ?_
  refine opens_struct Tryd.underlying25 (by kernel_rfl) ⟨_, rfl, rfl⟩ ?_
  exact fields_cons _ _ rfl rfl rfl (opens_string Tryd.underlying9 (by kernel_rfl)) (fields_cons _ _ rfl rfl rfl opens_strs (fields_cons _ _ rfl rfl rfl opens_ints (fields_last _ rfl opens_strs)))

def caseCost (r : CaseD) : Nat := r.name.size + strsCost r.lines + r.input.length + strsCost r.want
def casesCost (l : List CaseD) : Nat := l.length + (l.map caseCost).sum

theorem szCase {F : List Nat} {cs : List Value} (r : CaseD) (left : Int) (w : World) (hl0 : 0 ≤ left) (hl1 : left ≤ 1048576) [h : Shows w F r cs] :
    Calls Tryd.prog 7 #[.agg cs.toArray, .int .i64 left] w fun e w' => e = .returned (.int .i64 (left0 left (caseCost r))) ∧ Step w w' := by
  obtain ⟨a1, k1, a2, k2, a3, k3, F1, F2, F3, rfl, rfl, h1, h2, h3, i0⟩ := case_open h.is
  have n1 : Known w F1 r.lines [.slice a1 r.lines.length k1] := ⟨h1⟩
  have n2 : Known w F2 r.input [.slice a2 r.input.length k2] := ⟨h2⟩
  have n3 : Known w F3 r.want [.slice a3 r.want.length k3] := ⟨h3⟩
  have hc : caseCost r = r.name.size + strsCost r.lines + r.input.length + strsCost r.want := rfl
  replace hc := hid hc
  clear h
  unfold OkS at i0
  go_enter Tryd.func7, Tryd.ntmps7
  by_cases c0 : left - (r.name.size : Nat) < 0
  · go_wp2_with (first | (go_at_call 27; (with_reducible refine Calls.mono (szInts _ _ _ (by omega) (by omega)) ?_); rintro e wk ⟨rfl, st⟩) | (go_at_call 26; (with_reducible refine Calls.mono (szStrs _ _ _ (by omega) (by omega)) ?_); rintro e wk ⟨rfl, st⟩))
    go_ret
    exact ⟨by rw [hc.out, left0_neg (by omega)]; rfl, mkStep⟩
  by_cases c1 : left - (r.name.size : Nat) - (strsCost r.lines : Nat) < 0
  · have l1 := left0_neg (left := left - (r.name.size : Nat)) (c := strsCost r.lines) c1
    go_wp2_with (first | (go_at_call 27; (with_reducible refine Calls.mono (szInts _ _ _ (by omega) (by omega)) ?_); rintro e wk ⟨rfl, st⟩) | (go_at_call 26; (with_reducible refine Calls.mono (szStrs _ _ _ (by omega) (by omega)) ?_); rintro e wk ⟨rfl, st⟩))
    go_ret
    exact ⟨by rw [hc.out, left0_neg (by omega)]; rfl, mkStep⟩
  have l1 := left0_pos (left := left - (r.name.size : Nat)) (c := strsCost r.lines) c1
  by_cases c2 : left - (r.name.size : Nat) - (strsCost r.lines : Nat) - (r.input.length : Nat) < 0
  · have l2 := left0_neg (left := left - (r.name.size : Nat) - (strsCost r.lines : Nat)) (c := r.input.length) c2
    go_wp2_with (first | (go_at_call 27; (with_reducible refine Calls.mono (szInts _ _ _ (by omega) (by omega)) ?_); rintro e wk ⟨rfl, st⟩) | (go_at_call 26; (with_reducible refine Calls.mono (szStrs _ _ _ (by omega) (by omega)) ?_); rintro e wk ⟨rfl, st⟩))
    go_ret
    exact ⟨by rw [hc.out, left0_neg (by omega)]; rfl, mkStep⟩
  have l2 := left0_pos (left := left - (r.name.size : Nat) - (strsCost r.lines : Nat)) (c := r.input.length) c2
  by_cases c3 : left - (r.name.size : Nat) - (strsCost r.lines : Nat) - (r.input.length : Nat) - (strsCost r.want : Nat) < 0
  · have l3 := left0_neg (left := left - (r.name.size : Nat) - (strsCost r.lines : Nat) - (r.input.length : Nat)) (c := strsCost r.want) c3
    go_wp2_with (first | (go_at_call 27; (with_reducible refine Calls.mono (szInts _ _ _ (by omega) (by omega)) ?_); rintro e wk ⟨rfl, st⟩) | (go_at_call 26; (with_reducible refine Calls.mono (szStrs _ _ _ (by omega) (by omega)) ?_); rintro e wk ⟨rfl, st⟩))
    go_ret
    exact ⟨by rw [hc.out, left0_neg (by omega)]; rfl, mkStep⟩
  have l3 := left0_pos (left := left - (r.name.size : Nat) - (strsCost r.lines : Nat) - (r.input.length : Nat)) (c := strsCost r.want) c3
  go_wp2_with (first | (go_at_call 27; (with_reducible refine Calls.mono (szInts _ _ _ (by omega) (by omega)) ?_); rintro e wk ⟨rfl, st⟩) | (go_at_call 26; (with_reducible refine Calls.mono (szStrs _ _ _ (by omega) (by omega)) ?_); rintro e wk ⟨rfl, st⟩))
  go_ret
  exact ⟨by rw [hc.out, left0_pos (by omega)]; exact ret_int (by omega), mkStep⟩

set_option maxHeartbeats 1000000 in
theorem eqCase {F G : List Nat} {cs ds : List Value} (r q : CaseD) (w : World) [h : Shows w F r cs] [h' : Shows w G q ds] :
    Calls Tryd.prog 11 #[.agg cs.toArray, .agg ds.toArray] w fun e w' => e = .returned (.bool (decide (r = q))) ∧ Step w w' := by
  obtain ⟨a1, k1, a2, k2, a3, k3, F1, F2, F3, rfl, rfl, h1, h2, h3, i0⟩ := case_open h.is
  obtain ⟨b1, m1, b2, m2, b3, m3, G1, G2, G3, rfl, rfl, g1, g2, g3, j0⟩ := case_open h'.is
  have n1 : Known w F1 r.lines [.slice a1 r.lines.length k1] := ⟨h1⟩
  have n2 : Known w F2 r.input [.slice a2 r.input.length k2] := ⟨h2⟩
  have n3 : Known w F3 r.want [.slice a3 r.want.length k3] := ⟨h3⟩
  have q1 : Known w G1 q.lines [.slice b1 q.lines.length m1] := ⟨g1⟩
  have q2 : Known w G2 q.input [.slice b2 q.input.length m2] := ⟨g2⟩
  have q3 : Known w G3 q.want [.slice b3 q.want.length m3] := ⟨g3⟩
  have no : ∀ {p : Prop}, (r = q → p) → ¬ p → decide (r = q) = false := fun h1 h2 => decide_eq_false_iff_not.2 (fun e => h2 (h1 e))
  clear h h'
  go_enter Tryd.func11, Tryd.ntmps11
  by_cases c0 : r.name = q.name
  rotate_left
  · have hn := no (congrArg CaseD.name) c0
    replace hn := hid hn
    have e0 := str_no c0
    replace c0 := hid c0
    go_wp2_with (first | (go_at_call 35; (with_reducible refine Calls.mono (eqInts ..) ?_); rintro e wk ⟨rfl, st⟩) | (go_at_call 34; (with_reducible refine Calls.mono (eqStrs ..) ?_); rintro e wk ⟨rfl, st⟩))
    go_ret
    exact ⟨by rw [hn.out]; rfl, mkStep⟩
  have e0 := str_yes c0
  replace c0 := hid c0
  by_cases c1 : r.lines = q.lines
  rotate_left
  · have hn := no (congrArg CaseD.lines) c1
    replace hn := hid hn
    have e1 := decide_eq_false c1
    replace c1 := hid c1
    go_wp2_with (first | (go_at_call 35; (with_reducible refine Calls.mono (eqInts ..) ?_); rintro e wk ⟨rfl, st⟩) | (go_at_call 34; (with_reducible refine Calls.mono (eqStrs ..) ?_); rintro e wk ⟨rfl, st⟩))
    go_ret
    exact ⟨by rw [hn.out]; rfl, mkStep⟩
  have e1 := decide_eq_true c1
  replace c1 := hid c1
  by_cases c2 : r.input = q.input
  rotate_left
  · have hn := no (congrArg CaseD.input) c2
    replace hn := hid hn
    have e2 := decide_eq_false c2
    replace c2 := hid c2
    go_wp2_with (first | (go_at_call 35; (with_reducible refine Calls.mono (eqInts ..) ?_); rintro e wk ⟨rfl, st⟩) | (go_at_call 34; (with_reducible refine Calls.mono (eqStrs ..) ?_); rintro e wk ⟨rfl, st⟩))
    go_ret
    exact ⟨by rw [hn.out]; rfl, mkStep⟩
  have e2 := decide_eq_true c2
  replace c2 := hid c2
  by_cases c3 : r.want = q.want
  rotate_left
  · have hn := no (congrArg CaseD.want) c3
    replace hn := hid hn
    have e3 := decide_eq_false c3
    replace c3 := hid c3
    go_wp2_with (first | (go_at_call 35; (with_reducible refine Calls.mono (eqInts ..) ?_); rintro e wk ⟨rfl, st⟩) | (go_at_call 34; (with_reducible refine Calls.mono (eqStrs ..) ?_); rintro e wk ⟨rfl, st⟩))
    go_ret
    exact ⟨by rw [hn.out]; rfl, mkStep⟩
  have e3 := decide_eq_true c3
  replace c3 := hid c3
  have hy : decide (r = q) = true := decide_eq_true_iff.2 (CaseD.ext c0.out c1.out c2.out c3.out)
  replace hy := hid hy
  go_wp2_with (first | (go_at_call 35; (with_reducible refine Calls.mono (eqInts ..) ?_); rintro e wk ⟨rfl, st⟩) | (go_at_call 34; (with_reducible refine Calls.mono (eqStrs ..) ?_); rintro e wk ⟨rfl, st⟩))
  go_ret
  exact ⟨by rw [hy.out]; rfl, mkStep⟩

set_option maxHeartbeats 1000000 in
theorem toCase {F : List Nat} {cs : List Value} (r : CaseD) (w : World) (hb : caseCost r ≤ 1048576) [h : Shows w F r cs] :
    Calls Tryd.prog 9 #[.agg cs.toArray] w fun e w' => ∃ b1 m1 b2 m2 b3 m3 G, e = .returned (.agg #[.string r.name, .slice b1 r.lines.length m1, .slice b2 r.input.length m2, .slice b3 r.want.length m3]) ∧ Known w' G r [.string r.name, .slice b1 r.lines.length m1, .slice b2 r.input.length m2, .slice b3 r.want.length m3] ∧ NewF w G ∧ Step w w' := by
  obtain ⟨a1, k1, a2, k2, a3, k3, F1, F2, F3, rfl, rfl, h1, h2, h3, i0⟩ := case_open h.is
  have n1 : Known w F1 r.lines [.slice a1 r.lines.length k1] := ⟨h1⟩
  have n2 : Known w F2 r.input [.slice a2 r.input.length k2] := ⟨h2⟩
  have n3 : Known w F3 r.want [.slice a3 r.want.length k3] := ⟨h3⟩
  have hc : caseCost r = r.name.size + strsCost r.lines + r.input.length + strsCost r.want := rfl
  have z1 : strsCost r.lines ≤ 1048576 := by omega
  have z2 : r.input.length ≤ 1048576 := by omega
  have z3 : strsCost r.want ≤ 1048576 := by omega
  clear h hc hb
  go_enter Tryd.func9, Tryd.ntmps9
  go_wp2_with fail
  with_reducible refine Calls.mono (toStrs _ _ z1) ?_
  rintro e w1 ⟨b1, m1, Y1, rfl, y1, nw1, st1⟩
  go_wp2_with fail
  with_reducible refine Calls.mono (toInts _ _ z2) ?_
  rintro e w2 ⟨b2, m2, Y2, rfl, y2, nw2, st2⟩
  go_wp2_with fail
  with_reducible refine Calls.mono (toStrs _ _ z3) ?_
  rintro e w3 ⟨b3, m3, Y3, rfl, y3, nw3, st3⟩
  go_wp2
  refine bodyPost_ret (v := .agg #[.string r.name, .slice b1 r.lines.length m1, .slice b2 r.input.length m2, .slice b3 r.want.length m3]) (by simp [results, Tryd.results9, go_sem]) rfl ?_
  exact ⟨_, _, _, _, _, _, _, rfl, ⟨case_shut isOf isOf isOf i0⟩, ⟨(NewLt.add (NewLt.add (NewLt.one (a := w) nw1 y1) nw2 y2) nw3 y3).1⟩, mkStep⟩
end Go.Proofs.YteeabcdibpnciaaDoor
