/- The type Module as plain data; contracts of the laws' own helpers for it. Written by gen.py. -/
import Derived.Test.YtociekeaiigpfaaGreatDoorRow
import Derived.Test.YtociekeaiigpfaaGreatDoorGData
import Derived.Test.YtociekeaiigpfaaGreatDoorGExport
import Derived.Test.YtociekeaiigpfaaGreatDoorGFunc
import Derived.Test.YtociekeaiigpfaaGreatDoorGGlobal
import Derived.Test.YtociekeaiigpfaaGreatDoorGImport
import Derived.Test.YtociekeaiigpfaaGreatDoorGSig
namespace Go.Proofs.YtociekeaiigpfaaGreatDoor
attribute [local go_sem ↓] Go.wp_at_zero Go.wp_at_succ
open Go.RowKit Go.ChangeShapes Go.WideShapes
open Rep (Is sz)

theorem notin2 {b1 b2 : Nat} {F : List Nat} [n1 : NotIn b1 F] [n2 : NotIn b2 F] : ∀ b ∈ F, b ∉ [b1, b2] := by
  intro b hb hm
  simp only [List.mem_cons, List.not_mem_nil, or_false] at hm
  rcases hm with rfl | rfl
  · exact n1.ne hb
  · exact n2.ne hb
@[ext] structure ModuleD where
  sigs : List SigD
  imports : List ImportD
  funcs : List FuncD
  pages : Int
  most : Int
  globals : List GlobalD
  exports : List ExportD
  data : List DataD
  deriving DecidableEq

instance : Rep ModuleD := Rep.via fun r => (r.sigs, r.imports, r.funcs, r.pages, r.most, r.globals, r.exports, r.data)

theorem module_open {w : World} {F : List Nat} {r : ModuleD} {cs : List Value} (h : Is w F r cs) :
    ∃ a1 k1 a2 k2 a3 k3 a4 k4 a5 k5 a6 k6 F1 F2 F3 F4 F5 F6, cs = [.slice a1 r.sigs.length k1, .slice a2 r.imports.length k2, .slice a3 r.funcs.length k3, .int .i64 r.pages, .int .i64 r.most, .slice a4 r.globals.length k4, .slice a5 r.exports.length k5, .slice a6 r.data.length k6] ∧ F = F1 ++ F2 ++ F3 ++ F4 ++ F5 ++ F6 ∧ Is w F1 r.sigs [.slice a1 r.sigs.length k1] ∧ Is w F2 r.imports [.slice a2 r.imports.length k2] ∧ Is w F3 r.funcs [.slice a3 r.funcs.length k3] ∧ Is w F4 r.globals [.slice a4 r.globals.length k4] ∧ Is w F5 r.exports [.slice a5 r.exports.length k5] ∧ Is w F6 r.data [.slice a6 r.data.length k6] ∧ In64 r.pages ∧ In64 r.most := by
  obtain ⟨F1, _, c1, _, rfl, rfl, h1, F2, _, c2, _, rfl, rfl, h2, F3, _, c3, _, rfl, rfl, h3, _, _, _, _, rfl, rfl, ⟨rfl, rfl, i3⟩, _, _, _, _, rfl, rfl, ⟨rfl, rfl, i4⟩, F4, _, c4, _, rfl, rfl, h4, F5, F6, c5, c6, rfl, rfl, h5, h6⟩ := h
  obtain ⟨a1, k1, rfl⟩ := slice_form h1
  obtain ⟨a2, k2, rfl⟩ := slice_form h2
  obtain ⟨a3, k3, rfl⟩ := slice_form h3
  obtain ⟨a4, k4, rfl⟩ := slice_form h4
  obtain ⟨a5, k5, rfl⟩ := slice_form h5
  obtain ⟨a6, k6, rfl⟩ := slice_form h6
  exact ⟨a1, k1, a2, k2, a3, k3, a4, k4, a5, k5, a6, k6, F1, F2, F3, F4, F5, F6, rfl, by simp, h1, h2, h3, h4, h5, h6, i3, i4⟩

theorem module_shut {w : World} {F1 F2 F3 F4 F5 F6 : List Nat} {r : ModuleD} {s1 s2 s3 s4 s5 s6 : Value} (h1 : Is w F1 r.sigs [s1]) (h2 : Is w F2 r.imports [s2]) (h3 : Is w F3 r.funcs [s3]) (h4 : Is w F4 r.globals [s4]) (h5 : Is w F5 r.exports [s5]) (h6 : Is w F6 r.data [s6]) (i3 : In64 r.pages) (i4 : In64 r.most) : Is w (F1 ++ F2 ++ F3 ++ F4 ++ F5 ++ F6) r [s1, s2, s3, .int .i64 r.pages, .int .i64 r.most, s4, s5, s6] := by
  have h : Is w (F1 ++ (F2 ++ (F3 ++ ([] ++ ([] ++ (F4 ++ (F5 ++ (F6)))))))) r [s1, s2, s3, .int .i64 r.pages, .int .i64 r.most, s4, s5, s6] := ⟨F1, _, [_], _, rfl, rfl, h1, ⟨F2, _, [_], _, rfl, rfl, h2, ⟨F3, _, [_], _, rfl, rfl, h3, ⟨[], _, [_], _, rfl, rfl, ⟨rfl, rfl, i3⟩, ⟨[], _, [_], _, rfl, rfl, ⟨rfl, rfl, i4⟩, ⟨F4, _, [_], _, rfl, rfl, h4, ⟨F5, _, [_], _, rfl, rfl, h5, h6⟩⟩⟩⟩⟩⟩⟩
  simpa using h

set_option maxRecDepth 10000 in
theorem opens_module : Opens Tryz.prog 29 ModuleD := by
  refine Opens.via _ (fun y => ⟨y.1, y.2.1, y.2.2.1, y.2.2.2.1, y.2.2.2.2.1, y.2.2.2.2.2.1, y.2.2.2.2.2.2.1, y.2.2.2.2.2.2.2⟩) (fun _ => rfl) ?_
  refine opens_struct Tryz.underlying29 (by kernel_rfl) ⟨_, rfl, rfl⟩ ?_
  exact fields_cons _ _ rfl rfl rfl opens_sigs (fields_cons _ _ rfl rfl rfl opens_imports (fields_cons _ _ rfl rfl rfl opens_funcs (fields_cons _ _ rfl rfl rfl (opens_int Tryz.underlying3 (by kernel_rfl)) (fields_cons _ _ rfl rfl rfl (opens_int Tryz.underlying3 (by kernel_rfl)) (fields_cons _ _ rfl rfl rfl opens_globals (fields_cons _ _ rfl rfl rfl opens_exports (fields_last _ rfl opens_datas)))))))

def moduleCost (r : ModuleD) : Nat := sigsCost r.sigs + importsCost r.imports + funcsCost r.funcs + globalsCost r.globals + exportsCost r.exports + datasCost r.data
def modulesCost (l : List ModuleD) : Nat := l.length + (l.map moduleCost).sum

theorem szModule {F : List Nat} {cs : List Value} (r : ModuleD) (left : Int) (w : World) (hl0 : 0 ≤ left) (hl1 : left ≤ 1048576) [h : Shows w F r cs] :
    Calls Tryz.prog 6 #[.agg cs.toArray, .int .i64 left] w fun e w' => e = .returned (.int .i64 (left0 left (moduleCost r))) ∧ Step w w' := by
  obtain ⟨a1, k1, a2, k2, a3, k3, a4, k4, a5, k5, a6, k6, F1, F2, F3, F4, F5, F6, rfl, rfl, h1, h2, h3, h4, h5, h6, i3, i4⟩ := module_open h.is
  have n1 : Known w F1 r.sigs [.slice a1 r.sigs.length k1] := ⟨h1⟩
  have n2 : Known w F2 r.imports [.slice a2 r.imports.length k2] := ⟨h2⟩
  have n3 : Known w F3 r.funcs [.slice a3 r.funcs.length k3] := ⟨h3⟩
  have n4 : Known w F4 r.globals [.slice a4 r.globals.length k4] := ⟨h4⟩
  have n5 : Known w F5 r.exports [.slice a5 r.exports.length k5] := ⟨h5⟩
  have n6 : Known w F6 r.data [.slice a6 r.data.length k6] := ⟨h6⟩
  have hc : moduleCost r = sigsCost r.sigs + importsCost r.imports + funcsCost r.funcs + globalsCost r.globals + exportsCost r.exports + datasCost r.data := rfl
  replace hc := hid hc
  clear h
  go_enter Tryz.func6, Tryz.ntmps6
  by_cases c0 : left - (sigsCost r.sigs : Nat) < 0
  · have l0 := left0_neg (left := left) (c := sigsCost r.sigs) c0
    go_wp2_with (first | (go_at_call 23; (with_reducible refine Calls.mono (szDataS _ _ _ (by omega) (by omega)) ?_); rintro e wk ⟨rfl, st⟩) | (go_at_call 22; (with_reducible refine Calls.mono (szExportS _ _ _ (by omega) (by omega)) ?_); rintro e wk ⟨rfl, st⟩) | (go_at_call 20; (with_reducible refine Calls.mono (szFuncS _ _ _ (by omega) (by omega)) ?_); rintro e wk ⟨rfl, st⟩) | (go_at_call 21; (with_reducible refine Calls.mono (szGlobalS _ _ _ (by omega) (by omega)) ?_); rintro e wk ⟨rfl, st⟩) | (go_at_call 19; (with_reducible refine Calls.mono (szImportS _ _ _ (by omega) (by omega)) ?_); rintro e wk ⟨rfl, st⟩) | (go_at_call 18; (with_reducible refine Calls.mono (szSigS _ _ _ (by omega) (by omega)) ?_); rintro e wk ⟨rfl, st⟩))
    go_ret
    exact ⟨by rw [hc.out, left0_neg (by omega)]; rfl, mkStep⟩
  have l0 := left0_pos (left := left) (c := sigsCost r.sigs) c0
  by_cases c1 : left - (sigsCost r.sigs : Nat) - (importsCost r.imports : Nat) < 0
  · have l1 := left0_neg (left := left - (sigsCost r.sigs : Nat)) (c := importsCost r.imports) c1
    go_wp2_with (first | (go_at_call 23; (with_reducible refine Calls.mono (szDataS _ _ _ (by omega) (by omega)) ?_); rintro e wk ⟨rfl, st⟩) | (go_at_call 22; (with_reducible refine Calls.mono (szExportS _ _ _ (by omega) (by omega)) ?_); rintro e wk ⟨rfl, st⟩) | (go_at_call 20; (with_reducible refine Calls.mono (szFuncS _ _ _ (by omega) (by omega)) ?_); rintro e wk ⟨rfl, st⟩) | (go_at_call 21; (with_reducible refine Calls.mono (szGlobalS _ _ _ (by omega) (by omega)) ?_); rintro e wk ⟨rfl, st⟩) | (go_at_call 19; (with_reducible refine Calls.mono (szImportS _ _ _ (by omega) (by omega)) ?_); rintro e wk ⟨rfl, st⟩) | (go_at_call 18; (with_reducible refine Calls.mono (szSigS _ _ _ (by omega) (by omega)) ?_); rintro e wk ⟨rfl, st⟩))
    go_ret
    exact ⟨by rw [hc.out, left0_neg (by omega)]; rfl, mkStep⟩
  have l1 := left0_pos (left := left - (sigsCost r.sigs : Nat)) (c := importsCost r.imports) c1
  by_cases c2 : left - (sigsCost r.sigs : Nat) - (importsCost r.imports : Nat) - (funcsCost r.funcs : Nat) < 0
  · have l2 := left0_neg (left := left - (sigsCost r.sigs : Nat) - (importsCost r.imports : Nat)) (c := funcsCost r.funcs) c2
    go_wp2_with (first | (go_at_call 23; (with_reducible refine Calls.mono (szDataS _ _ _ (by omega) (by omega)) ?_); rintro e wk ⟨rfl, st⟩) | (go_at_call 22; (with_reducible refine Calls.mono (szExportS _ _ _ (by omega) (by omega)) ?_); rintro e wk ⟨rfl, st⟩) | (go_at_call 20; (with_reducible refine Calls.mono (szFuncS _ _ _ (by omega) (by omega)) ?_); rintro e wk ⟨rfl, st⟩) | (go_at_call 21; (with_reducible refine Calls.mono (szGlobalS _ _ _ (by omega) (by omega)) ?_); rintro e wk ⟨rfl, st⟩) | (go_at_call 19; (with_reducible refine Calls.mono (szImportS _ _ _ (by omega) (by omega)) ?_); rintro e wk ⟨rfl, st⟩) | (go_at_call 18; (with_reducible refine Calls.mono (szSigS _ _ _ (by omega) (by omega)) ?_); rintro e wk ⟨rfl, st⟩))
    go_ret
    exact ⟨by rw [hc.out, left0_neg (by omega)]; rfl, mkStep⟩
  have l2 := left0_pos (left := left - (sigsCost r.sigs : Nat) - (importsCost r.imports : Nat)) (c := funcsCost r.funcs) c2
  by_cases c5 : left - (sigsCost r.sigs : Nat) - (importsCost r.imports : Nat) - (funcsCost r.funcs : Nat) - (globalsCost r.globals : Nat) < 0
  · have l5 := left0_neg (left := left - (sigsCost r.sigs : Nat) - (importsCost r.imports : Nat) - (funcsCost r.funcs : Nat)) (c := globalsCost r.globals) c5
    go_wp2_with (first | (go_at_call 23; (with_reducible refine Calls.mono (szDataS _ _ _ (by omega) (by omega)) ?_); rintro e wk ⟨rfl, st⟩) | (go_at_call 22; (with_reducible refine Calls.mono (szExportS _ _ _ (by omega) (by omega)) ?_); rintro e wk ⟨rfl, st⟩) | (go_at_call 20; (with_reducible refine Calls.mono (szFuncS _ _ _ (by omega) (by omega)) ?_); rintro e wk ⟨rfl, st⟩) | (go_at_call 21; (with_reducible refine Calls.mono (szGlobalS _ _ _ (by omega) (by omega)) ?_); rintro e wk ⟨rfl, st⟩) | (go_at_call 19; (with_reducible refine Calls.mono (szImportS _ _ _ (by omega) (by omega)) ?_); rintro e wk ⟨rfl, st⟩) | (go_at_call 18; (with_reducible refine Calls.mono (szSigS _ _ _ (by omega) (by omega)) ?_); rintro e wk ⟨rfl, st⟩))
    go_ret
    exact ⟨by rw [hc.out, left0_neg (by omega)]; rfl, mkStep⟩
  have l5 := left0_pos (left := left - (sigsCost r.sigs : Nat) - (importsCost r.imports : Nat) - (funcsCost r.funcs : Nat)) (c := globalsCost r.globals) c5
  by_cases c6 : left - (sigsCost r.sigs : Nat) - (importsCost r.imports : Nat) - (funcsCost r.funcs : Nat) - (globalsCost r.globals : Nat) - (exportsCost r.exports : Nat) < 0
  · have l6 := left0_neg (left := left - (sigsCost r.sigs : Nat) - (importsCost r.imports : Nat) - (funcsCost r.funcs : Nat) - (globalsCost r.globals : Nat)) (c := exportsCost r.exports) c6
    go_wp2_with (first | (go_at_call 23; (with_reducible refine Calls.mono (szDataS _ _ _ (by omega) (by omega)) ?_); rintro e wk ⟨rfl, st⟩) | (go_at_call 22; (with_reducible refine Calls.mono (szExportS _ _ _ (by omega) (by omega)) ?_); rintro e wk ⟨rfl, st⟩) | (go_at_call 20; (with_reducible refine Calls.mono (szFuncS _ _ _ (by omega) (by omega)) ?_); rintro e wk ⟨rfl, st⟩) | (go_at_call 21; (with_reducible refine Calls.mono (szGlobalS _ _ _ (by omega) (by omega)) ?_); rintro e wk ⟨rfl, st⟩) | (go_at_call 19; (with_reducible refine Calls.mono (szImportS _ _ _ (by omega) (by omega)) ?_); rintro e wk ⟨rfl, st⟩) | (go_at_call 18; (with_reducible refine Calls.mono (szSigS _ _ _ (by omega) (by omega)) ?_); rintro e wk ⟨rfl, st⟩))
    go_ret
    exact ⟨by rw [hc.out, left0_neg (by omega)]; rfl, mkStep⟩
  have l6 := left0_pos (left := left - (sigsCost r.sigs : Nat) - (importsCost r.imports : Nat) - (funcsCost r.funcs : Nat) - (globalsCost r.globals : Nat)) (c := exportsCost r.exports) c6
  by_cases c7 : left - (sigsCost r.sigs : Nat) - (importsCost r.imports : Nat) - (funcsCost r.funcs : Nat) - (globalsCost r.globals : Nat) - (exportsCost r.exports : Nat) - (datasCost r.data : Nat) < 0
  · have l7 := left0_neg (left := left - (sigsCost r.sigs : Nat) - (importsCost r.imports : Nat) - (funcsCost r.funcs : Nat) - (globalsCost r.globals : Nat) - (exportsCost r.exports : Nat)) (c := datasCost r.data) c7
    go_wp2_with (first | (go_at_call 23; (with_reducible refine Calls.mono (szDataS _ _ _ (by omega) (by omega)) ?_); rintro e wk ⟨rfl, st⟩) | (go_at_call 22; (with_reducible refine Calls.mono (szExportS _ _ _ (by omega) (by omega)) ?_); rintro e wk ⟨rfl, st⟩) | (go_at_call 20; (with_reducible refine Calls.mono (szFuncS _ _ _ (by omega) (by omega)) ?_); rintro e wk ⟨rfl, st⟩) | (go_at_call 21; (with_reducible refine Calls.mono (szGlobalS _ _ _ (by omega) (by omega)) ?_); rintro e wk ⟨rfl, st⟩) | (go_at_call 19; (with_reducible refine Calls.mono (szImportS _ _ _ (by omega) (by omega)) ?_); rintro e wk ⟨rfl, st⟩) | (go_at_call 18; (with_reducible refine Calls.mono (szSigS _ _ _ (by omega) (by omega)) ?_); rintro e wk ⟨rfl, st⟩))
    go_ret
    exact ⟨by rw [hc.out, left0_neg (by omega)]; rfl, mkStep⟩
  have l7 := left0_pos (left := left - (sigsCost r.sigs : Nat) - (importsCost r.imports : Nat) - (funcsCost r.funcs : Nat) - (globalsCost r.globals : Nat) - (exportsCost r.exports : Nat)) (c := datasCost r.data) c7
  go_wp2_with (first | (go_at_call 23; (with_reducible refine Calls.mono (szDataS _ _ _ (by omega) (by omega)) ?_); rintro e wk ⟨rfl, st⟩) | (go_at_call 22; (with_reducible refine Calls.mono (szExportS _ _ _ (by omega) (by omega)) ?_); rintro e wk ⟨rfl, st⟩) | (go_at_call 20; (with_reducible refine Calls.mono (szFuncS _ _ _ (by omega) (by omega)) ?_); rintro e wk ⟨rfl, st⟩) | (go_at_call 21; (with_reducible refine Calls.mono (szGlobalS _ _ _ (by omega) (by omega)) ?_); rintro e wk ⟨rfl, st⟩) | (go_at_call 19; (with_reducible refine Calls.mono (szImportS _ _ _ (by omega) (by omega)) ?_); rintro e wk ⟨rfl, st⟩) | (go_at_call 18; (with_reducible refine Calls.mono (szSigS _ _ _ (by omega) (by omega)) ?_); rintro e wk ⟨rfl, st⟩))
  go_ret
  exact ⟨by rw [hc.out, left0_pos (by omega)]; exact ret_int (by omega), mkStep⟩

set_option maxHeartbeats 1000000 in
theorem eqModule {F G : List Nat} {cs ds : List Value} (r q : ModuleD) (w : World) [h : Shows w F r cs] [h' : Shows w G q ds] :
    Calls Tryz.prog 10 #[.agg cs.toArray, .agg ds.toArray] w fun e w' => e = .returned (.bool (decide (r = q))) ∧ Step w w' := by
  obtain ⟨a1, k1, a2, k2, a3, k3, a4, k4, a5, k5, a6, k6, F1, F2, F3, F4, F5, F6, rfl, rfl, h1, h2, h3, h4, h5, h6, i3, i4⟩ := module_open h.is
  obtain ⟨b1, m1, b2, m2, b3, m3, b4, m4, b5, m5, b6, m6, G1, G2, G3, G4, G5, G6, rfl, rfl, g1, g2, g3, g4, g5, g6, j3, j4⟩ := module_open h'.is
  have n1 : Known w F1 r.sigs [.slice a1 r.sigs.length k1] := ⟨h1⟩
  have n2 : Known w F2 r.imports [.slice a2 r.imports.length k2] := ⟨h2⟩
  have n3 : Known w F3 r.funcs [.slice a3 r.funcs.length k3] := ⟨h3⟩
  have n4 : Known w F4 r.globals [.slice a4 r.globals.length k4] := ⟨h4⟩
  have n5 : Known w F5 r.exports [.slice a5 r.exports.length k5] := ⟨h5⟩
  have n6 : Known w F6 r.data [.slice a6 r.data.length k6] := ⟨h6⟩
  have q1 : Known w G1 q.sigs [.slice b1 q.sigs.length m1] := ⟨g1⟩
  have q2 : Known w G2 q.imports [.slice b2 q.imports.length m2] := ⟨g2⟩
  have q3 : Known w G3 q.funcs [.slice b3 q.funcs.length m3] := ⟨g3⟩
  have q4 : Known w G4 q.globals [.slice b4 q.globals.length m4] := ⟨g4⟩
  have q5 : Known w G5 q.exports [.slice b5 q.exports.length m5] := ⟨g5⟩
  have q6 : Known w G6 q.data [.slice b6 q.data.length m6] := ⟨g6⟩
  have no : ∀ {p : Prop}, (r = q → p) → ¬ p → decide (r = q) = false := fun h1 h2 => decide_eq_false_iff_not.2 (fun e => h2 (h1 e))
  clear h h'
  go_enter Tryz.func10, Tryz.ntmps10
  by_cases c0 : r.sigs = q.sigs
  rotate_left
  · have hn := no (congrArg ModuleD.sigs) c0
    replace hn := hid hn
    have e0 := decide_eq_false c0
    replace c0 := hid c0
    go_wp2_with (first | (go_at_call 37; (with_reducible refine Calls.mono (eqDataS ..) ?_); rintro e wk ⟨rfl, st⟩) | (go_at_call 36; (with_reducible refine Calls.mono (eqExportS ..) ?_); rintro e wk ⟨rfl, st⟩) | (go_at_call 34; (with_reducible refine Calls.mono (eqFuncS ..) ?_); rintro e wk ⟨rfl, st⟩) | (go_at_call 35; (with_reducible refine Calls.mono (eqGlobalS ..) ?_); rintro e wk ⟨rfl, st⟩) | (go_at_call 33; (with_reducible refine Calls.mono (eqImportS ..) ?_); rintro e wk ⟨rfl, st⟩) | (go_at_call 32; (with_reducible refine Calls.mono (eqSigS ..) ?_); rintro e wk ⟨rfl, st⟩))
    go_ret
    exact ⟨by rw [hn.out]; rfl, mkStep⟩
  have e0 := decide_eq_true c0
  replace c0 := hid c0
  by_cases c1 : r.imports = q.imports
  rotate_left
  · have hn := no (congrArg ModuleD.imports) c1
    replace hn := hid hn
    have e1 := decide_eq_false c1
    replace c1 := hid c1
    go_wp2_with (first | (go_at_call 37; (with_reducible refine Calls.mono (eqDataS ..) ?_); rintro e wk ⟨rfl, st⟩) | (go_at_call 36; (with_reducible refine Calls.mono (eqExportS ..) ?_); rintro e wk ⟨rfl, st⟩) | (go_at_call 34; (with_reducible refine Calls.mono (eqFuncS ..) ?_); rintro e wk ⟨rfl, st⟩) | (go_at_call 35; (with_reducible refine Calls.mono (eqGlobalS ..) ?_); rintro e wk ⟨rfl, st⟩) | (go_at_call 33; (with_reducible refine Calls.mono (eqImportS ..) ?_); rintro e wk ⟨rfl, st⟩) | (go_at_call 32; (with_reducible refine Calls.mono (eqSigS ..) ?_); rintro e wk ⟨rfl, st⟩))
    go_ret
    exact ⟨by rw [hn.out]; rfl, mkStep⟩
  have e1 := decide_eq_true c1
  replace c1 := hid c1
  by_cases c2 : r.funcs = q.funcs
  rotate_left
  · have hn := no (congrArg ModuleD.funcs) c2
    replace hn := hid hn
    have e2 := decide_eq_false c2
    replace c2 := hid c2
    go_wp2_with (first | (go_at_call 37; (with_reducible refine Calls.mono (eqDataS ..) ?_); rintro e wk ⟨rfl, st⟩) | (go_at_call 36; (with_reducible refine Calls.mono (eqExportS ..) ?_); rintro e wk ⟨rfl, st⟩) | (go_at_call 34; (with_reducible refine Calls.mono (eqFuncS ..) ?_); rintro e wk ⟨rfl, st⟩) | (go_at_call 35; (with_reducible refine Calls.mono (eqGlobalS ..) ?_); rintro e wk ⟨rfl, st⟩) | (go_at_call 33; (with_reducible refine Calls.mono (eqImportS ..) ?_); rintro e wk ⟨rfl, st⟩) | (go_at_call 32; (with_reducible refine Calls.mono (eqSigS ..) ?_); rintro e wk ⟨rfl, st⟩))
    go_ret
    exact ⟨by rw [hn.out]; rfl, mkStep⟩
  have e2 := decide_eq_true c2
  replace c2 := hid c2
  by_cases c3 : r.pages = q.pages
  rotate_left
  · have hn := no (congrArg ModuleD.pages) c3
    replace hn := hid hn
    go_wp2_with (first | (go_at_call 37; (with_reducible refine Calls.mono (eqDataS ..) ?_); rintro e wk ⟨rfl, st⟩) | (go_at_call 36; (with_reducible refine Calls.mono (eqExportS ..) ?_); rintro e wk ⟨rfl, st⟩) | (go_at_call 34; (with_reducible refine Calls.mono (eqFuncS ..) ?_); rintro e wk ⟨rfl, st⟩) | (go_at_call 35; (with_reducible refine Calls.mono (eqGlobalS ..) ?_); rintro e wk ⟨rfl, st⟩) | (go_at_call 33; (with_reducible refine Calls.mono (eqImportS ..) ?_); rintro e wk ⟨rfl, st⟩) | (go_at_call 32; (with_reducible refine Calls.mono (eqSigS ..) ?_); rintro e wk ⟨rfl, st⟩))
    go_ret
    exact ⟨by rw [hn.out]; rfl, mkStep⟩
  by_cases c4 : r.most = q.most
  rotate_left
  · have hn := no (congrArg ModuleD.most) c4
    replace hn := hid hn
    go_wp2_with (first | (go_at_call 37; (with_reducible refine Calls.mono (eqDataS ..) ?_); rintro e wk ⟨rfl, st⟩) | (go_at_call 36; (with_reducible refine Calls.mono (eqExportS ..) ?_); rintro e wk ⟨rfl, st⟩) | (go_at_call 34; (with_reducible refine Calls.mono (eqFuncS ..) ?_); rintro e wk ⟨rfl, st⟩) | (go_at_call 35; (with_reducible refine Calls.mono (eqGlobalS ..) ?_); rintro e wk ⟨rfl, st⟩) | (go_at_call 33; (with_reducible refine Calls.mono (eqImportS ..) ?_); rintro e wk ⟨rfl, st⟩) | (go_at_call 32; (with_reducible refine Calls.mono (eqSigS ..) ?_); rintro e wk ⟨rfl, st⟩))
    go_ret
    exact ⟨by rw [hn.out]; rfl, mkStep⟩
  by_cases c5 : r.globals = q.globals
  rotate_left
  · have hn := no (congrArg ModuleD.globals) c5
    replace hn := hid hn
    have e5 := decide_eq_false c5
    replace c5 := hid c5
    go_wp2_with (first | (go_at_call 37; (with_reducible refine Calls.mono (eqDataS ..) ?_); rintro e wk ⟨rfl, st⟩) | (go_at_call 36; (with_reducible refine Calls.mono (eqExportS ..) ?_); rintro e wk ⟨rfl, st⟩) | (go_at_call 34; (with_reducible refine Calls.mono (eqFuncS ..) ?_); rintro e wk ⟨rfl, st⟩) | (go_at_call 35; (with_reducible refine Calls.mono (eqGlobalS ..) ?_); rintro e wk ⟨rfl, st⟩) | (go_at_call 33; (with_reducible refine Calls.mono (eqImportS ..) ?_); rintro e wk ⟨rfl, st⟩) | (go_at_call 32; (with_reducible refine Calls.mono (eqSigS ..) ?_); rintro e wk ⟨rfl, st⟩))
    go_ret
    exact ⟨by rw [hn.out]; rfl, mkStep⟩
  have e5 := decide_eq_true c5
  replace c5 := hid c5
  by_cases c6 : r.exports = q.exports
  rotate_left
  · have hn := no (congrArg ModuleD.exports) c6
    replace hn := hid hn
    have e6 := decide_eq_false c6
    replace c6 := hid c6
    go_wp2_with (first | (go_at_call 37; (with_reducible refine Calls.mono (eqDataS ..) ?_); rintro e wk ⟨rfl, st⟩) | (go_at_call 36; (with_reducible refine Calls.mono (eqExportS ..) ?_); rintro e wk ⟨rfl, st⟩) | (go_at_call 34; (with_reducible refine Calls.mono (eqFuncS ..) ?_); rintro e wk ⟨rfl, st⟩) | (go_at_call 35; (with_reducible refine Calls.mono (eqGlobalS ..) ?_); rintro e wk ⟨rfl, st⟩) | (go_at_call 33; (with_reducible refine Calls.mono (eqImportS ..) ?_); rintro e wk ⟨rfl, st⟩) | (go_at_call 32; (with_reducible refine Calls.mono (eqSigS ..) ?_); rintro e wk ⟨rfl, st⟩))
    go_ret
    exact ⟨by rw [hn.out]; rfl, mkStep⟩
  have e6 := decide_eq_true c6
  replace c6 := hid c6
  by_cases c7 : r.data = q.data
  rotate_left
  · have hn := no (congrArg ModuleD.data) c7
    replace hn := hid hn
    have e7 := decide_eq_false c7
    replace c7 := hid c7
    go_wp2_with (first | (go_at_call 37; (with_reducible refine Calls.mono (eqDataS ..) ?_); rintro e wk ⟨rfl, st⟩) | (go_at_call 36; (with_reducible refine Calls.mono (eqExportS ..) ?_); rintro e wk ⟨rfl, st⟩) | (go_at_call 34; (with_reducible refine Calls.mono (eqFuncS ..) ?_); rintro e wk ⟨rfl, st⟩) | (go_at_call 35; (with_reducible refine Calls.mono (eqGlobalS ..) ?_); rintro e wk ⟨rfl, st⟩) | (go_at_call 33; (with_reducible refine Calls.mono (eqImportS ..) ?_); rintro e wk ⟨rfl, st⟩) | (go_at_call 32; (with_reducible refine Calls.mono (eqSigS ..) ?_); rintro e wk ⟨rfl, st⟩))
    go_ret
    exact ⟨by rw [hn.out]; rfl, mkStep⟩
  have e7 := decide_eq_true c7
  replace c7 := hid c7
  have hy : decide (r = q) = true := decide_eq_true_iff.2 (ModuleD.ext c0.out c1.out c2.out c3 c4 c5.out c6.out c7.out)
  replace hy := hid hy
  go_wp2_with (first | (go_at_call 37; (with_reducible refine Calls.mono (eqDataS ..) ?_); rintro e wk ⟨rfl, st⟩) | (go_at_call 36; (with_reducible refine Calls.mono (eqExportS ..) ?_); rintro e wk ⟨rfl, st⟩) | (go_at_call 34; (with_reducible refine Calls.mono (eqFuncS ..) ?_); rintro e wk ⟨rfl, st⟩) | (go_at_call 35; (with_reducible refine Calls.mono (eqGlobalS ..) ?_); rintro e wk ⟨rfl, st⟩) | (go_at_call 33; (with_reducible refine Calls.mono (eqImportS ..) ?_); rintro e wk ⟨rfl, st⟩) | (go_at_call 32; (with_reducible refine Calls.mono (eqSigS ..) ?_); rintro e wk ⟨rfl, st⟩))
  go_ret
  exact ⟨by rw [hy.out]; rfl, mkStep⟩

set_option maxHeartbeats 1000000 in
theorem toModule {F : List Nat} {cs : List Value} (r : ModuleD) (w : World) (hb : moduleCost r ≤ 1048576) [h : Shows w F r cs] :
    Calls Tryz.prog 8 #[.agg cs.toArray] w fun e w' => ∃ b1 m1 b2 m2 b3 m3 b4 m4 b5 m5 b6 m6 G, e = .returned (.agg #[.slice b1 r.sigs.length m1, .slice b2 r.imports.length m2, .slice b3 r.funcs.length m3, .int .i64 r.pages, .int .i64 r.most, .slice b4 r.globals.length m4, .slice b5 r.exports.length m5, .slice b6 r.data.length m6]) ∧ Known w' G r [.slice b1 r.sigs.length m1, .slice b2 r.imports.length m2, .slice b3 r.funcs.length m3, .int .i64 r.pages, .int .i64 r.most, .slice b4 r.globals.length m4, .slice b5 r.exports.length m5, .slice b6 r.data.length m6] ∧ NewF w G ∧ Step w w' := by
  obtain ⟨a1, k1, a2, k2, a3, k3, a4, k4, a5, k5, a6, k6, F1, F2, F3, F4, F5, F6, rfl, rfl, h1, h2, h3, h4, h5, h6, i3, i4⟩ := module_open h.is
  have n1 : Known w F1 r.sigs [.slice a1 r.sigs.length k1] := ⟨h1⟩
  have n2 : Known w F2 r.imports [.slice a2 r.imports.length k2] := ⟨h2⟩
  have n3 : Known w F3 r.funcs [.slice a3 r.funcs.length k3] := ⟨h3⟩
  have n4 : Known w F4 r.globals [.slice a4 r.globals.length k4] := ⟨h4⟩
  have n5 : Known w F5 r.exports [.slice a5 r.exports.length k5] := ⟨h5⟩
  have n6 : Known w F6 r.data [.slice a6 r.data.length k6] := ⟨h6⟩
  have hc : moduleCost r = sigsCost r.sigs + importsCost r.imports + funcsCost r.funcs + globalsCost r.globals + exportsCost r.exports + datasCost r.data := rfl
  have z1 : sigsCost r.sigs ≤ 1048576 := by omega
  have z2 : importsCost r.imports ≤ 1048576 := by omega
  have z3 : funcsCost r.funcs ≤ 1048576 := by omega
  have z4 : globalsCost r.globals ≤ 1048576 := by omega
  have z5 : exportsCost r.exports ≤ 1048576 := by omega
  have z6 : datasCost r.data ≤ 1048576 := by omega
  clear h hc hb
  go_enter Tryz.func8, Tryz.ntmps8
  go_wp2_with fail
  with_reducible refine Calls.mono (toSigS _ _ z1) ?_
  rintro e w1 ⟨b1, m1, Y1, rfl, y1, nw1, st1⟩
  go_wp2_with fail
  with_reducible refine Calls.mono (toImportS _ _ z2) ?_
  rintro e w2 ⟨b2, m2, Y2, rfl, y2, nw2, st2⟩
  go_wp2_with fail
  with_reducible refine Calls.mono (toFuncS _ _ z3) ?_
  rintro e w3 ⟨b3, m3, Y3, rfl, y3, nw3, st3⟩
  go_wp2_with fail
  with_reducible refine Calls.mono (toGlobalS _ _ z4) ?_
  rintro e w4 ⟨b4, m4, Y4, rfl, y4, nw4, st4⟩
  go_wp2_with fail
  with_reducible refine Calls.mono (toExportS _ _ z5) ?_
  rintro e w5 ⟨b5, m5, Y5, rfl, y5, nw5, st5⟩
  go_wp2_with fail
  with_reducible refine Calls.mono (toDataS _ _ z6) ?_
  rintro e w6 ⟨b6, m6, Y6, rfl, y6, nw6, st6⟩
  go_wp2
  refine bodyPost_ret (v := .agg #[.slice b1 r.sigs.length m1, .slice b2 r.imports.length m2, .slice b3 r.funcs.length m3, .int .i64 r.pages, .int .i64 r.most, .slice b4 r.globals.length m4, .slice b5 r.exports.length m5, .slice b6 r.data.length m6]) (by simp [results, Tryz.results8, go_sem]) rfl ?_
  have nwl : NewLt w w6 (Y1 ++ Y2 ++ Y3 ++ Y4 ++ Y5 ++ Y6) := NewLt.add (NewLt.add (NewLt.add (NewLt.add (NewLt.add (NewLt.one (a := w) nw1 y1) nw2 y2) nw3 y3) nw4 y4) nw5 y5) nw6 y6
  refine ⟨_, _, _, _, _, _, _, _, _, _, _, _, _, rfl, ⟨module_shut (Rep.fr (S := [w.heap.size + 1 + 1, w.heap.size + 1]) (w := w6) isOf ?f notin2) (Rep.fr (S := [w.heap.size + 1 + 1, w.heap.size + 1]) (w := w6) isOf ?f notin2) (Rep.fr (S := [w.heap.size + 1 + 1, w.heap.size + 1]) (w := w6) isOf ?f notin2) (Rep.fr (S := [w.heap.size + 1 + 1, w.heap.size + 1]) (w := w6) isOf ?f notin2) (Rep.fr (S := [w.heap.size + 1 + 1, w.heap.size + 1]) (w := w6) isOf ?f notin2) (Rep.fr (S := [w.heap.size + 1 + 1, w.heap.size + 1]) (w := w6) isOf ?f notin2) i3 i4⟩, ⟨nwl.1⟩, ?_⟩
  case f => with_reducible repeat (first | exact Fr.refl _ _ | assumption | refine Fr.alloc ?_ _ | refine Fr.drew ?_ | (refine Fr.setCell ?_ (.inr ?_) _; rotate_left; focus (first | (simp; done) | (simp; omega))) | (refine Fr.setCell ?_ (.inl ?_) _; rotate_left; focus (simp; done)))
  exact mkStep
end Go.Proofs.YtociekeaiigpfaaGreatDoor
