/- The draw of right bodies. -/
import Derived.Test.YtpaekgeopmifeaaDoorK21
import Derived.Deep.DeepCutAuto
namespace Go.Proofs.YtpaekgeopmifeaaDoor
attribute [local go_sem ↓] Go.wp_at_zero Go.wp_at_succ
open Go.RowKit
open Rep (Is sz)
set_option maxRecDepth 20000 in
set_option maxHeartbeats 16000000 in
noncomputable def goodSk {p : Nat} {F FL : List Nat} (m : ModuleD) (deep N : Nat) (loc want : Int) (lb : List Int) (w : World) (hd : deep ≤ 3) (hN : N ≤ 6000) (_hlb : lb.length ≤ deep) (_hw : 0 ≤ want ∧ want ≤ 1) (_hloc : In64 loc) (sg : SigIn m) [c : Cur w p] [apF : Apart F [p]] [_apL : Apart FL [p]] (ltF : ∀ b ∈ F, b < w.heap.size) (ltL : ∀ b ∈ FL, b < w.heap.size) (a1 : Option Addr) (k1 : Nat) (a2 : Option Addr) (k2 : Nat) (a3 : Option Addr) (k3 : Nat) (a4 : Option Addr) (k4 : Nat) (a5 : Option Addr) (k5 : Nat) (a6 : Option Addr) (k6 : Nat) (kk : Known w F m [.slice a1 m.sigs.length k1, .slice a2 m.imports.length k2, .slice a3 m.funcs.length k3, .int .i64 m.pages, .int .i64 m.most, .slice a4 m.globals.length k4, .slice a5 m.exports.length k5, .slice a6 m.data.length k6]) (_i3 : In64 m.pages) (_i4 : In64 m.most) (aL : Option Addr) (cL : Nat) (_hFL : FL = if lb = [] then [] else blk aL) (_hvwL : View w aL 1 lb.length (intVs lb)) (_hmlL : lb.length ≤ cL ∧ cL ≤ 2 ^ 63 - 1) (_kl : Known w FL lb [.slice aL lb.length cL]) (_hinL : Hid (∀ n ∈ lb, In64 n)) (_ih : Hid (deep < 3 → ∀ (x : World) (lb2 : List Int) (G : List Nat) (v2 : Value) (want2 : Int), Cur x p → Shows x F m [.slice a1 m.sigs.length k1, .slice a2 m.imports.length k2, .slice a3 m.funcs.length k3, .int .i64 m.pages, .int .i64 m.most, .slice a4 m.globals.length k4, .slice a5 m.exports.length k5, .slice a6 m.data.length k6] → Shows x G lb2 [v2] → Apart G [p] → lb2.length ≤ deep + 1 → (0 ≤ want2 ∧ want2 ≤ 1) → Calls Tryd.prog 35 #[.pointer (some ⟨p, 0, none⟩), .agg [.slice a1 m.sigs.length k1, .slice a2 m.imports.length k2, .slice a3 m.funcs.length k3, .int .i64 m.pages, .int .i64 m.most, .slice a4 m.globals.length k4, .slice a5 m.exports.length k5, .slice a6 m.data.length k6].toArray, .int .i64 loc, .int .i64 want2, .int .i64 ((deep : Int) + 1), v2] x (DrBody p x N))) (htk : Hid (∀ i : InsD, 0 ≤ (takesC m i).1 ∧ (takesC m i).1 ≤ 3 ∧ 0 ≤ (takesC m i).2 ∧ (takesC m i).2 ≤ 1)) (K : Nat) (hK : 5 + 2 * N = K) : Skel (Calls Tryd.prog 35 #[.pointer (some ⟨p, 0, none⟩), .agg [.slice a1 m.sigs.length k1, .slice a2 m.imports.length k2, .slice a3 m.funcs.length k3, .int .i64 m.pages, .int .i64 m.most, .slice a4 m.globals.length k4, .slice a5 m.exports.length k5, .slice a6 m.data.length k6].toArray, .int .i64 loc, .int .i64 want, .int .i64 deep, .slice aL lb.length cL] w (DrBody p w (6 * K + 7))) := by
  refine ⟨?A, ?B, ?C, ?T, fun hA hB hC hT => ?main⟩
  case main =>
    have ag : Arg p w := ⟨c.lt⟩
    have og : Old p w := ⟨c.lt⟩
    have pl := ag.lt
    obtain ⟨w1, hw1⟩ : ∃ w1, w1 = w.alloc (Obj.cells #[.slice a1 m.sigs.length k1, .slice a2 m.imports.length k2, .slice a3 m.funcs.length k3, .int .i64 m.pages, .int .i64 m.most, .slice a4 m.globals.length k4, .slice a5 m.exports.length k5, .slice a6 m.data.length k6] 30) := ⟨_, rfl⟩
    have st1 : Step w w1 := by rw [hw1]; exact mkStep
    have bM : BoxL w1 w.heap.size #[.slice a1 m.sigs.length k1, .slice a2 m.imports.length k2, .slice a3 m.funcs.length k3, .int .i64 m.pages, .int .i64 m.most, .slice a4 m.globals.length k4, .slice a5 m.exports.length k5, .slice a6 m.data.length k6] := by rw [hw1]; exact ⟨Box.new ..⟩
    have z1 : w1.heap.size = w.heap.size + 1 := by rw [hw1]; simp
    have cu1 : Cur w1 p := inferInstance
    have ag1 : Arg p w1 := ⟨cu1.lt⟩
    have og1 : Old p w1 := ⟨cu1.lt⟩
    have oM := bM.old
    have neM : NeB w.heap.size p := inferInstance
    go_enter Tryd.func35, Tryd.ntmps35
    go_wp2_with fail
    rw [← hw1]
    replace hw1 := hid hw1
    with_reducible refine Calls.mono (sbelowC _ _ (by omega)) ?_
    rintro e w3 ⟨n, hn, rfl, cu3, st3⟩
    replace hn : n ≤ 6 := by omega
    have own0 : w3.ownsRow w1.heap.size 50 3 (.slice (some ⟨w.heap.size + 1, 0, none⟩) ([] : List InsD).length 0) ([] : List InsD).length (([] : List InsD).flatMap insVs) := own_px p (own_litAt (n := 0) z1.symm rfl (Nat.le_refl _) (Nat.zero_le _) rfl)
    have hKb : K ≤ 12005 := by omega
    have hn4 := hid (show ([] : List InsD).length + n * K ≤ 6 * K by rw [List.length_nil, Nat.zero_add]; exact Nat.mul_le_mul_right _ hn)
    go_wp2_with fail
    go_loopw [13, 14, 15] (fun o hh i wr => ∃ (j q : Nat) (ao : Option Addr) (co : Nat) (l : List InsD), j ≤ 6 ∧ i = .int .i64 j ∧ hh = .int .i64 q ∧ q + j ≤ 6 ∧ o = .slice ao l.length co ∧ Hid (l.length + j * K ≤ 6 * K) ∧ Hid (∀ i ∈ l, In3 i) ∧ wr.ownsRow w1.heap.size 50 3 (.slice ao l.length co) l.length (l.flatMap insVs) ∧ Cur wr p ∧ StepX [p] w1 wr) (fun _ _ i _ => (intOf i).toNat)
    case atStart => exact ⟨n, 0, _, 0, [], hn, rfl, rfl, by omega, rfl, hn4, hid (by simp), own0, inferInstance, mkStepX⟩
    case round =>
      clear own0 hn4
      obtain ⟨j, q, al, cl, l, hj, rfl, rfl, hqj, rfl, hjl, hil, ownl, cu, st⟩ := hrel
      by_cases hlt : 0 < j
      · obtain ⟨i, rfl⟩ : ∃ i, j = i + 1 := ⟨j - 1, by omega⟩
        have hjl2 : l.length + i * K + K ≤ 6 * K := by have := hjl.out; rw [Nat.succ_mul] at this; omega
        have hll : l.length ≤ 72030 := by omega
        replace hjl2 := hid hjl2
        have z0 := st.fr.size
        have abl : Abv p (blk al) := abv_own ownl
        have sbl : SubX w1 (blk al) [p] := sub_own ownl
        have aFl : Apart F (blk al) := apart_row ltF ownl (by omega)
        have aLl : Apart FL (blk al) := apart_row ltL ownl (by omega)
        go_wp2_with fail
        with_reducible refine Calls.mono (sbelowC _ _ (by omega)) ?_
        rintro e w5 ⟨k, hk, rfl, cu5, st5⟩
        by_cases cA : k = 0 ∧ deep < 3 ∧ q = 0
        · revert w1 w3 n wr q al cl l i w5 k
          (try revert u264); (try revert u263); (try revert u262); (try revert u261); (try revert u260); (try revert u259); (try revert u258); (try revert u257); (try revert u256); (try revert u255); (try revert u254); (try revert u253); (try revert u252); (try revert u251); (try revert u250); (try revert u249); (try revert u248); (try revert u247); (try revert u246); (try revert u245); (try revert u244); (try revert u243); (try revert u242); (try revert u241); (try revert u240); (try revert u239); (try revert u238); (try revert u237); (try revert u236); (try revert u235); (try revert u234); (try revert u233); (try revert u232); (try revert u231); (try revert u230); (try revert u229); (try revert u228); (try revert u227); (try revert u226); (try revert u225); (try revert u224); (try revert u223); (try revert u222); (try revert u221); (try revert u220); (try revert u219); (try revert u218); (try revert u217); (try revert u216); (try revert u215); (try revert u214); (try revert u213); (try revert u212); (try revert u211); (try revert u210); (try revert u209); (try revert u208); (try revert u207); (try revert u206); (try revert u205); (try revert u204); (try revert u203); (try revert u202); (try revert u201); (try revert u200); (try revert u199); (try revert u198); (try revert u197); (try revert u196); (try revert u195); (try revert u194); (try revert u193); (try revert u192); (try revert u191); (try revert u190); (try revert u189); (try revert u188); (try revert u187); (try revert u186); (try revert u185); (try revert u184); (try revert u183); (try revert u182); (try revert u181); (try revert u180); (try revert u179); (try revert u178); (try revert u177); (try revert u176); (try revert u175); (try revert u174); (try revert u173); (try revert u172); (try revert u171); (try revert u170); (try revert u169); (try revert u168); (try revert u167); (try revert u166); (try revert u165); (try revert u164); (try revert u163); (try revert u162); (try revert u161); (try revert u160); (try revert u159); (try revert u158); (try revert u157); (try revert u156); (try revert u155); (try revert u154); (try revert u153); (try revert u152); (try revert u151); (try revert u150); (try revert u149); (try revert u148); (try revert u147); (try revert u146); (try revert u145); (try revert u144); (try revert u143); (try revert u142); (try revert u141); (try revert u140); (try revert u139); (try revert u138); (try revert u137); (try revert u136); (try revert u135); (try revert u134); (try revert u133); (try revert u132); (try revert u131); (try revert u130); (try revert u129); (try revert u128); (try revert u127); (try revert u126); (try revert u125); (try revert u124); (try revert u123); (try revert u122); (try revert u121); (try revert u120); (try revert u119); (try revert u118); (try revert u117); (try revert u116); (try revert u115); (try revert u114); (try revert u113); (try revert u112); (try revert u111); (try revert u110); (try revert u109); (try revert u108); (try revert u107); (try revert u106); (try revert u105); (try revert u104); (try revert u103); (try revert u102); (try revert u101); (try revert u100); (try revert u99); (try revert u98); (try revert u97); (try revert u96); (try revert u95); (try revert u94); (try revert u93); (try revert u92); (try revert u91); (try revert u90); (try revert u89); (try revert u88); (try revert u87); (try revert u86); (try revert u85); (try revert u84); (try revert u83); (try revert u82); (try revert u81); (try revert u80); (try revert u79); (try revert u78); (try revert u77); (try revert u76); (try revert u75); (try revert u74); (try revert u73); (try revert u72); (try revert u71); (try revert u70); (try revert u69); (try revert u68); (try revert u67); (try revert u66); (try revert u65); (try revert u64); (try revert u63); (try revert u62); (try revert u61); (try revert u60); (try revert u59); (try revert u58); (try revert u57); (try revert u56); (try revert u55); (try revert u54); (try revert u53); (try revert u52); (try revert u51); (try revert u50); (try revert u49); (try revert u48); (try revert u47); (try revert u46); (try revert u45); (try revert u44); (try revert u43); (try revert u42); (try revert u41); (try revert u40); (try revert u39); (try revert u38); (try revert u37); (try revert u36); (try revert u35); (try revert u34); (try revert u33); (try revert u32); (try revert u31); (try revert u30); (try revert u29); (try revert u28); (try revert u27); (try revert u26); (try revert u25); (try revert u24); (try revert u23); (try revert u22); (try revert u21); (try revert u20); (try revert u19); (try revert u18); (try revert u17); (try revert u16); (try revert u15); (try revert u14); (try revert u13)
          repeat (rename_i Kx; revert Kx)
          exact hA.of
        by_cases cB : k = 1 ∧ deep < 3 ∧ 0 < q
        · revert w1 w3 n wr q al cl l i w5 k
          (try revert u264); (try revert u263); (try revert u262); (try revert u261); (try revert u260); (try revert u259); (try revert u258); (try revert u257); (try revert u256); (try revert u255); (try revert u254); (try revert u253); (try revert u252); (try revert u251); (try revert u250); (try revert u249); (try revert u248); (try revert u247); (try revert u246); (try revert u245); (try revert u244); (try revert u243); (try revert u242); (try revert u241); (try revert u240); (try revert u239); (try revert u238); (try revert u237); (try revert u236); (try revert u235); (try revert u234); (try revert u233); (try revert u232); (try revert u231); (try revert u230); (try revert u229); (try revert u228); (try revert u227); (try revert u226); (try revert u225); (try revert u224); (try revert u223); (try revert u222); (try revert u221); (try revert u220); (try revert u219); (try revert u218); (try revert u217); (try revert u216); (try revert u215); (try revert u214); (try revert u213); (try revert u212); (try revert u211); (try revert u210); (try revert u209); (try revert u208); (try revert u207); (try revert u206); (try revert u205); (try revert u204); (try revert u203); (try revert u202); (try revert u201); (try revert u200); (try revert u199); (try revert u198); (try revert u197); (try revert u196); (try revert u195); (try revert u194); (try revert u193); (try revert u192); (try revert u191); (try revert u190); (try revert u189); (try revert u188); (try revert u187); (try revert u186); (try revert u185); (try revert u184); (try revert u183); (try revert u182); (try revert u181); (try revert u180); (try revert u179); (try revert u178); (try revert u177); (try revert u176); (try revert u175); (try revert u174); (try revert u173); (try revert u172); (try revert u171); (try revert u170); (try revert u169); (try revert u168); (try revert u167); (try revert u166); (try revert u165); (try revert u164); (try revert u163); (try revert u162); (try revert u161); (try revert u160); (try revert u159); (try revert u158); (try revert u157); (try revert u156); (try revert u155); (try revert u154); (try revert u153); (try revert u152); (try revert u151); (try revert u150); (try revert u149); (try revert u148); (try revert u147); (try revert u146); (try revert u145); (try revert u144); (try revert u143); (try revert u142); (try revert u141); (try revert u140); (try revert u139); (try revert u138); (try revert u137); (try revert u136); (try revert u135); (try revert u134); (try revert u133); (try revert u132); (try revert u131); (try revert u130); (try revert u129); (try revert u128); (try revert u127); (try revert u126); (try revert u125); (try revert u124); (try revert u123); (try revert u122); (try revert u121); (try revert u120); (try revert u119); (try revert u118); (try revert u117); (try revert u116); (try revert u115); (try revert u114); (try revert u113); (try revert u112); (try revert u111); (try revert u110); (try revert u109); (try revert u108); (try revert u107); (try revert u106); (try revert u105); (try revert u104); (try revert u103); (try revert u102); (try revert u101); (try revert u100); (try revert u99); (try revert u98); (try revert u97); (try revert u96); (try revert u95); (try revert u94); (try revert u93); (try revert u92); (try revert u91); (try revert u90); (try revert u89); (try revert u88); (try revert u87); (try revert u86); (try revert u85); (try revert u84); (try revert u83); (try revert u82); (try revert u81); (try revert u80); (try revert u79); (try revert u78); (try revert u77); (try revert u76); (try revert u75); (try revert u74); (try revert u73); (try revert u72); (try revert u71); (try revert u70); (try revert u69); (try revert u68); (try revert u67); (try revert u66); (try revert u65); (try revert u64); (try revert u63); (try revert u62); (try revert u61); (try revert u60); (try revert u59); (try revert u58); (try revert u57); (try revert u56); (try revert u55); (try revert u54); (try revert u53); (try revert u52); (try revert u51); (try revert u50); (try revert u49); (try revert u48); (try revert u47); (try revert u46); (try revert u45); (try revert u44); (try revert u43); (try revert u42); (try revert u41); (try revert u40); (try revert u39); (try revert u38); (try revert u37); (try revert u36); (try revert u35); (try revert u34); (try revert u33); (try revert u32); (try revert u31); (try revert u30); (try revert u29); (try revert u28); (try revert u27); (try revert u26); (try revert u25); (try revert u24); (try revert u23); (try revert u22); (try revert u21); (try revert u20); (try revert u19); (try revert u18); (try revert u17); (try revert u16); (try revert u15); (try revert u14); (try revert u13)
          repeat (rename_i Kx; revert Kx)
          exact hB.of
        by_cases cC : k = 2 ∧ 0 < q ∧ 0 < lb.length
        · revert w1 w3 n wr q al cl l i w5 k
          (try revert u264); (try revert u263); (try revert u262); (try revert u261); (try revert u260); (try revert u259); (try revert u258); (try revert u257); (try revert u256); (try revert u255); (try revert u254); (try revert u253); (try revert u252); (try revert u251); (try revert u250); (try revert u249); (try revert u248); (try revert u247); (try revert u246); (try revert u245); (try revert u244); (try revert u243); (try revert u242); (try revert u241); (try revert u240); (try revert u239); (try revert u238); (try revert u237); (try revert u236); (try revert u235); (try revert u234); (try revert u233); (try revert u232); (try revert u231); (try revert u230); (try revert u229); (try revert u228); (try revert u227); (try revert u226); (try revert u225); (try revert u224); (try revert u223); (try revert u222); (try revert u221); (try revert u220); (try revert u219); (try revert u218); (try revert u217); (try revert u216); (try revert u215); (try revert u214); (try revert u213); (try revert u212); (try revert u211); (try revert u210); (try revert u209); (try revert u208); (try revert u207); (try revert u206); (try revert u205); (try revert u204); (try revert u203); (try revert u202); (try revert u201); (try revert u200); (try revert u199); (try revert u198); (try revert u197); (try revert u196); (try revert u195); (try revert u194); (try revert u193); (try revert u192); (try revert u191); (try revert u190); (try revert u189); (try revert u188); (try revert u187); (try revert u186); (try revert u185); (try revert u184); (try revert u183); (try revert u182); (try revert u181); (try revert u180); (try revert u179); (try revert u178); (try revert u177); (try revert u176); (try revert u175); (try revert u174); (try revert u173); (try revert u172); (try revert u171); (try revert u170); (try revert u169); (try revert u168); (try revert u167); (try revert u166); (try revert u165); (try revert u164); (try revert u163); (try revert u162); (try revert u161); (try revert u160); (try revert u159); (try revert u158); (try revert u157); (try revert u156); (try revert u155); (try revert u154); (try revert u153); (try revert u152); (try revert u151); (try revert u150); (try revert u149); (try revert u148); (try revert u147); (try revert u146); (try revert u145); (try revert u144); (try revert u143); (try revert u142); (try revert u141); (try revert u140); (try revert u139); (try revert u138); (try revert u137); (try revert u136); (try revert u135); (try revert u134); (try revert u133); (try revert u132); (try revert u131); (try revert u130); (try revert u129); (try revert u128); (try revert u127); (try revert u126); (try revert u125); (try revert u124); (try revert u123); (try revert u122); (try revert u121); (try revert u120); (try revert u119); (try revert u118); (try revert u117); (try revert u116); (try revert u115); (try revert u114); (try revert u113); (try revert u112); (try revert u111); (try revert u110); (try revert u109); (try revert u108); (try revert u107); (try revert u106); (try revert u105); (try revert u104); (try revert u103); (try revert u102); (try revert u101); (try revert u100); (try revert u99); (try revert u98); (try revert u97); (try revert u96); (try revert u95); (try revert u94); (try revert u93); (try revert u92); (try revert u91); (try revert u90); (try revert u89); (try revert u88); (try revert u87); (try revert u86); (try revert u85); (try revert u84); (try revert u83); (try revert u82); (try revert u81); (try revert u80); (try revert u79); (try revert u78); (try revert u77); (try revert u76); (try revert u75); (try revert u74); (try revert u73); (try revert u72); (try revert u71); (try revert u70); (try revert u69); (try revert u68); (try revert u67); (try revert u66); (try revert u65); (try revert u64); (try revert u63); (try revert u62); (try revert u61); (try revert u60); (try revert u59); (try revert u58); (try revert u57); (try revert u56); (try revert u55); (try revert u54); (try revert u53); (try revert u52); (try revert u51); (try revert u50); (try revert u49); (try revert u48); (try revert u47); (try revert u46); (try revert u45); (try revert u44); (try revert u43); (try revert u42); (try revert u41); (try revert u40); (try revert u39); (try revert u38); (try revert u37); (try revert u36); (try revert u35); (try revert u34); (try revert u33); (try revert u32); (try revert u31); (try revert u30); (try revert u29); (try revert u28); (try revert u27); (try revert u26); (try revert u25); (try revert u24); (try revert u23); (try revert u22); (try revert u21); (try revert u20); (try revert u19); (try revert u18); (try revert u17); (try revert u16); (try revert u15); (try revert u14); (try revert u13)
          repeat (rename_i Kx; revert Kx)
          exact hC.of
        clear hA hB hC hT
        have hk16 : k < 16 := by omega
        clear hk
        go_upto_region 7 with fail
        go_cut [46] (fun c wx => c = .bool false ∧ wx = w5)
        case first =>
          as_aux_lemma =>
            by_cases k0 : k = 0
            · have x0 : ((k : Int) == 0) = true := beq_iff_eq.2 (by omega)
              by_cases d3 : deep < 3
              · have q0 : ((q : Int) == 0) = false := by rw [beq_eq_false_iff_ne]; omega
                clear k0
                go_wp2_with fail
                as_aux_lemma =>
                  go_meet
                  case rel => exact ⟨rfl, rfl⟩
              · clear k0
                go_wp2_with fail
                as_aux_lemma =>
                  go_meet
                  case rel => exact ⟨rfl, rfl⟩
            · have x0 : ((k : Int) == 0) = false := by rw [beq_eq_false_iff_ne]; omega
              clear k0
              go_wp2_with fail
              as_aux_lemma =>
                go_meet
                case rel => exact ⟨rfl, rfl⟩
        case rest =>
          obtain ⟨rfl, hwc⟩ := hcut
          replace hwc := hwc.symm
          subst hwc
          go_upto_region 16 with fail
          go_cut [91] (fun c wx => c = .bool false ∧ wx = w5)
          case first =>
            as_aux_lemma =>
              by_cases k0 : k = 1
              · have x0 : ((k : Int) == 1) = true := beq_iff_eq.2 (by omega)
                by_cases d3 : deep < 3
                · have q0 : ¬ 0 < q := by omega
                  clear k0
                  go_wp2_with fail
                  as_aux_lemma =>
                    go_meet
                    case rel => exact ⟨rfl, rfl⟩
                · clear k0
                  go_wp2_with fail
                  as_aux_lemma =>
                    go_meet
                    case rel => exact ⟨rfl, rfl⟩
              · have x0 : ((k : Int) == 1) = false := by rw [beq_eq_false_iff_ne]; omega
                clear k0
                go_wp2_with fail
                as_aux_lemma =>
                  go_meet
                  case rel => exact ⟨rfl, rfl⟩
          case rest =>
            obtain ⟨rfl, hwc⟩ := hcut
            replace hwc := hwc.symm
            subst hwc
            go_upto_region 24 with fail
            go_cut [150] (fun c wx => c = .bool false ∧ wx = w5)
            case first =>
              as_aux_lemma =>
                by_cases k0 : k = 2
                · have x0 : ((k : Int) == 2) = true := beq_iff_eq.2 (by omega)
                  by_cases q3 : 0 < q
                  · have q0 : ¬ 0 < lb.length := by omega
                    clear k0
                    go_wp2_with fail
                    as_aux_lemma =>
                      go_meet
                      case rel => exact ⟨rfl, rfl⟩
                  · clear k0
                    go_wp2_with fail
                    as_aux_lemma =>
                      go_meet
                      case rel => exact ⟨rfl, rfl⟩
                · have x0 : ((k : Int) == 2) = false := by rw [beq_eq_false_iff_ne]; omega
                  clear k0
                  go_wp2_with fail
                  as_aux_lemma =>
                    go_meet
                    case rel => exact ⟨rfl, rfl⟩
            case rest =>
              obtain ⟨rfl, hwc⟩ := hcut
              replace hwc := hwc.symm
              subst hwc
              go_wp2_with fail
              with_reducible refine Calls.mono (sinsK _) ?_
              rintro e w6 ⟨u, hu, hux, rfl, cu6, st6⟩
              obtain ⟨u0, u1, u2⟩ := id hu
              have z5 := st5.fr.size
              have z6 := st6.fr.size
              have nQ : NotIn w6.heap.size (blk al) := ⟨fun h => by have := (ownsRow_blk ownl _ h).2; omega⟩
              have neQ : NeB w6.heap.size p := inferInstance
              have nF6 : NotIn w6.heap.size F := ⟨fun h => by have := ltF _ h; omega⟩
              have nw6 : NewB w6 w6.heap.size := ⟨Nat.le_refl _⟩
              go_upto_if 171 with fail
              have bQ : BoxL (w6.alloc (Obj.cells #[.int .i64 u.op, .int .i64 u.a, .int .i64 u.b] 50)) w6.heap.size #[.int .i64 u.op, .int .i64 u.a, .int .i64 u.b] := ⟨Box.new ..⟩
              have oQ := bQ.old
              go_cut [24] (fun pv wx => pv = .pointer (some ⟨w6.heap.size, 0, none⟩) ∧ ∃ t0 t1 t2 : Int, In3 ⟨t0, t1, t2⟩ ∧ Hid (IdxIn ⟨t0, t1, t2⟩) ∧ BoxL wx w6.heap.size #[.int .i64 t0, .int .i64 t1, .int .i64 t2] ∧ Cur wx p ∧ StepX [p] w6 wx)
              case first =>
                as_aux_lemma =>
                  by_cases c65 : u.op = 65
                  · have e65 : (u.op == 65) = true := beq_iff_eq.2 c65
                    replace c65 := hid c65
                    go_wp2_with fail
                    with_reducible refine Calls.mono (sbelowC _ _ (by omega)) ?_
                    rintro e w7 ⟨y, hy, rfl, cu7, st7⟩
                    have ht3 : In3 ⟨u.op, (y : Int), u.b⟩ := ⟨u0, by unfold In64; (try simp only []); omega, u2⟩
                    have htx : Hid (IdxIn ⟨u.op, (y : Int), u.b⟩) := hid (by have h65 := c65.out; unfold IdxIn; (try simp only []); omega)
                    go_wp2_with fail
                    have bT : BoxL (w7.setCell ⟨w6.heap.size, 1, none⟩ (.int .i64 (y : Int))) w6.heap.size #[.int .i64 u.op, .int .i64 (y : Int), .int .i64 u.b] := boxSet rfl
                    as_aux_lemma =>
                      go_meet
                      case rel => exact ⟨rfl, u.op, (y : Int), u.b, ht3, htx, boxOf, inferInstance, mkStepX⟩
                  · have e65 : (u.op == 65) = false := beq_eq_false_iff_ne.2 c65
                    clear c65
                    go_wp2_with fail
                    as_aux_lemma =>
                      go_meet
                      case rel => exact ⟨rfl, u.op, u.a, u.b, hu, hux, boxOf, inferInstance, mkStepX⟩
              case rest =>
                obtain ⟨rfl, t0, t1, t2, ht3, htx, bT, cuT, stT⟩ := hcut
                clear bQ oQ
                have oT := bT.old
                have zT := stT.fr.size
                go_upto_region 33 with fail
                refine wp_boxg wc.heap.size (sv ⟨.slice a1 m.sigs.length k1, .slice a2 m.imports.length k2, .slice a3 m.funcs.length k3, m.pages, m.most, .slice a4 m.globals.length k4, .slice a5 m.exports.length k5, .slice a6 m.data.length k6⟩ loc 0 (.slice none 0 0) false) (Box.new _ _ _) ?_
                intro wV sV bV
                have oV := bV.old
                have bTV : BoxL wV w6.heap.size #[.int .i64 t0, .int .i64 t1, .int .i64 t2] := boxOf
                have oTV := bTV.old
                have htx2 := htx.out
                unfold IdxIn at htx2
                go_cut [217] (fun c wx => ∃ b : Bool, c = .bool b ∧ Step wV wx)
                case first =>
                  as_aux_lemma =>
                    go_wp2_with fail
                    with_reducible refine Calls.mono (sbegins ..) ?_
                    rintro e w8 ⟨rfl, st8⟩
                    have bT8 : BoxL w8 w6.heap.size #[.int .i64 t0, .int .i64 t1, .int .i64 t2] := boxOf
                    have oT8 := bT8.old
                    have bV8 : BoxL w8 wc.heap.size (sv ⟨.slice a1 m.sigs.length k1, .slice a2 m.imports.length k2, .slice a3 m.funcs.length k3, m.pages, m.most, .slice a4 m.globals.length k4, .slice a5 m.exports.length k5, .slice a6 m.data.length k6⟩ loc 0 (.slice none 0 0) false) := boxOf
                    have oV8 := bV8.old
                    by_cases b1 : kindOf t0 = 1
                    · rw [decide_eq_true b1]
                      clear b1
                      go_wp2_with fail
                      as_aux_lemma =>
                        go_meet
                        case rel => exact ⟨_, rfl, mkStep⟩
                    rw [decide_eq_false b1]
                    clear b1
                    by_cases f5 : t0 = 5
                    · have e5 : (t0 == 5) = true := beq_iff_eq.2 f5
                      clear f5 htx2
                      go_wp2_with fail
                      as_aux_lemma =>
                        go_meet
                        case rel => exact ⟨_, rfl, mkStep⟩
                    have e5 : (t0 == 5) = false := beq_eq_false_iff_ne.2 f5
                    clear f5
                    by_cases f11 : t0 = 11
                    · have e11 : (t0 == 11) = true := beq_iff_eq.2 f11
                      clear f11 htx2
                      go_wp2_with fail
                      as_aux_lemma =>
                        go_meet
                        case rel => exact ⟨_, rfl, mkStep⟩
                    have e11 : (t0 == 11) = false := beq_eq_false_iff_ne.2 f11
                    clear f11
                    by_cases f12 : t0 = 12
                    · have e12 : (t0 == 12) = true := beq_iff_eq.2 f12
                      clear f12 htx2
                      go_wp2_with fail
                      as_aux_lemma =>
                        go_meet
                        case rel => exact ⟨_, rfl, mkStep⟩
                    have e12 : (t0 == 12) = false := beq_eq_false_iff_ne.2 f12
                    clear f12
                    by_cases f13 : t0 = 13
                    · have e13 : (t0 == 13) = true := beq_iff_eq.2 f13
                      clear f13 htx2
                      go_wp2_with fail
                      as_aux_lemma =>
                        go_meet
                        case rel => exact ⟨_, rfl, mkStep⟩
                    have e13 : (t0 == 13) = false := beq_eq_false_iff_ne.2 f13
                    clear f13
                    by_cases f15 : t0 = 15
                    · have e15 : (t0 == 15) = true := beq_iff_eq.2 f15
                      clear f15 htx2
                      go_wp2_with fail
                      as_aux_lemma =>
                        go_meet
                        case rel => exact ⟨_, rfl, mkStep⟩
                    have e15 : (t0 == 15) = false := beq_eq_false_iff_ne.2 f15
                    clear f15
                    by_cases f0 : t0 = 0
                    · have e0 : (t0 == 0) = true := beq_iff_eq.2 f0
                      clear f0 htx2
                      go_wp2_with fail
                      as_aux_lemma =>
                        go_meet
                        case rel => exact ⟨_, rfl, mkStep⟩
                    have e0 : (t0 == 0) = false := beq_eq_false_iff_ne.2 f0
                    clear f0
                    go_wp2_with fail
                    with_reducible refine Calls.mono (shasB (M := ⟨.slice a1 m.sigs.length k1, .slice a2 m.imports.length k2, .slice a3 m.funcs.length k3, m.pages, m.most, .slice a4 m.globals.length k4, .slice a5 m.exports.length k5, .slice a6 m.data.length k6⟩) (loc := loc) (h := 0) (st := .slice none 0 0) (bad := false) m ⟨t0, t1, t2⟩ _ sg htx2) ?_
                    rintro e w9 ⟨rfl, st9⟩
                    cases hh : hasC m loc ⟨t0, t1, t2⟩
                    · go_wp2_with fail
                      as_aux_lemma =>
                        go_meet
                        case rel => exact ⟨_, rfl, mkStep⟩
                    · go_wp2_with fail
                      as_aux_lemma =>
                        go_meet
                        case rel => exact ⟨_, rfl, mkStep⟩
                case rest =>
                  obtain ⟨b, rfl, stW⟩ := hcut
                  cases b
                  rotate_left
                  · go_wp2
                    as_aux_lemma =>
                      go_roundw
                      case rel => exact ⟨i, q, al, cl, l, by omega, by go_num, by go_num, by omega, rfl, hid (by have := hjl2.out; omega), hil, own_px p ownl, inferInstance, mkStepX⟩
                      case measure => simp [intOf]
                  go_wp2_with fail
                  with_reducible refine Calls.mono (stakesW m ⟨t0, t1, t2⟩ _ sg) ?_
                  rintro e wT ⟨rfl, stT2⟩
                  obtain ⟨z, hT⟩ : ∃ z, takesC m ⟨t0, t1, t2⟩ = z := ⟨_, rfl⟩
                  have htt := htk.out ⟨t0, t1, t2⟩
                  rw [hT] at htt ⊢
                  obtain ⟨tk, pt⟩ := z
                  simp only at htt ⊢
                  replace hT := hid hT
                  have bTT : BoxL wT w6.heap.size #[.int .i64 t0, .int .i64 t1, .int .i64 t2] := boxOf
                  go_wp2_with fail
                  go_loopw [13, 14] (fun o hh wx => ∃ (g : Nat) (ag : Option Addr) (cg : Nat) (lg : List InsD), hh = .int .i64 g ∧ o = .slice ag lg.length cg ∧ q ≤ g ∧ ((g : Int) ≤ tk ∨ g = q) ∧ lg.length + q ≤ l.length + g ∧ Hid (∀ i ∈ lg, In3 i) ∧ wx.ownsRow w1.heap.size 50 3 (.slice ag lg.length cg) lg.length (lg.flatMap insVs) ∧ Hid (w6.heap.size ∉ blk ag) ∧ BoxL wx w6.heap.size #[.int .i64 t0, .int .i64 t1, .int .i64 t2] ∧ Cur wx p ∧ StepX [p] w1 wx) (fun _ hh _ => (tk - intOf hh).toNat)
                  case atStart => exact ⟨q, al, cl, l, rfl, rfl, by omega, .inr rfl, by omega, hil, own_px p ownl, hid nQ.ne, bTT, inferInstance, mkStepX⟩
                  case round =>
                    obtain ⟨g, ag9, cg, lg, rfl, rfl, hqg, hgt, hlg, hig, owng, hng, bg, cug, stg⟩ := hrel
                    have og9 := bg.old
                    have ng9 : NotIn w6.heap.size (blk ag9) := ⟨hng.out⟩
                    have abg : Abv p (blk ag9) := abv_own owng
                    have sbg : SubX w1 (blk ag9) [p] := sub_own owng
                    by_cases hgl : (g : Int) < tk
                    · go_wp2_with fail
                      with_reducible refine Calls.mono (sbelowC _ _ (by omega)) ?_
                      rintro e wz ⟨y9, hy9, rfl, cuz, stz⟩
                      have bz : BoxL wz w6.heap.size #[.int .i64 t0, .int .i64 t1, .int .i64 t2] := boxOf
                      obtain ⟨r1, hr1⟩ : ∃ r1, lg ++ [⟨65, (y9 : Int), 0⟩] = r1 := ⟨_, rfl⟩
                      have hlr1 : r1.length ≤ lg.length + 1 := by rw [← hr1]; simp
                      have hir1 := hid (show ∀ i ∈ r1, In3 i by rw [← hr1]; exact in3_app hig.out (in3_one (show In3 ⟨65, (y9 : Int), 0⟩ from ⟨by unfold In64; (try simp only []); omega, by unfold In64; (try simp only []); omega, by unfold In64; (try simp only []); omega⟩)))
                      go_wp2_with (at_builtin; go_must (refine app_ins1 rfl (.tmp 227) (.tmp 231) 37 rfl 50 Tryd.inss_tab w1.heap.size ag9 cg lg rfl (own_px p owng) _ 1 ⟨65, (y9 : Int), 0⟩ r1 rfl hr1 (by omega) (FrX.fr (S := [p]) (a := w1)).size ?_); intro ar1 cr1 wr1 ownr1 sxr1 h3r1)
                      have br1 : BoxL wr1 w6.heap.size #[.int .i64 t0, .int .i64 t1, .int .i64 t2] := boxOf
                      have lt6 := bz.is.lt
                      have nr1 : w6.heap.size ∉ blk ar1 := fun h => by rcases h3r1 _ h with h | h; exact hng.out h; simp at h; omega
                      go_roundw
                      case rel => exact ⟨g + 1, ar1, cr1, r1, by go_num, rfl, by omega, by omega, by omega, hir1, ownr1, hid nr1, br1, inferInstance, mkStepX⟩
                      case measure => simp [intOf]; omega
                    · obtain ⟨q3, hq3⟩ : ∃ q3 : Nat, (g : Int) - tk + pt = (q3 : Int) := ⟨((g : Int) - tk + pt).toNat, by omega⟩
                      obtain ⟨r1, hr1⟩ : ∃ r1, lg ++ [⟨t0, t1, t2⟩] = r1 := ⟨_, rfl⟩
                      have hlr1 : r1.length ≤ lg.length + 1 := by rw [← hr1]; simp
                      have hir1 := hid (show ∀ i ∈ r1, In3 i by rw [← hr1]; exact in3_app hig.out (in3_one ht3))
                      go_wp2_with (at_builtin; go_must (refine app_ins1 rfl (.tmp 235) (.tmp 237) 37 rfl 50 Tryd.inss_tab w1.heap.size ag9 cg lg rfl (own_px p owng) _ 1 ⟨t0, t1, t2⟩ r1 rfl hr1 (by omega) (FrX.fr (S := [p]) (a := w1)).size ?_); intro ar1 cr1 wr1 ownr1 sxr1 h3r1)
                      have abr1 : Abv p (blk ar1) := abv_own ownr1
                      have sbr1 : SubX w1 (blk ar1) [p] := sub_own ownr1
                      as_aux_lemma =>
                        go_roundw
                        case rel => exact ⟨i, q3, ar1, cr1, r1, by omega, by go_num, by rw [← hq3], by omega, rfl, hid (by have := hjl2.out; omega), hir1, own_px p ownr1, inferInstance, mkStepX⟩
                        case measure => simp [intOf]
      · have hj0 : j ≤ 0 := by omega
        revert w1 w3 n wr j q al cl l
        (try revert u264); (try revert u263); (try revert u262); (try revert u261); (try revert u260); (try revert u259); (try revert u258); (try revert u257); (try revert u256); (try revert u255); (try revert u254); (try revert u253); (try revert u252); (try revert u251); (try revert u250); (try revert u249); (try revert u248); (try revert u247); (try revert u246); (try revert u245); (try revert u244); (try revert u243); (try revert u242); (try revert u241); (try revert u240); (try revert u239); (try revert u238); (try revert u237); (try revert u236); (try revert u235); (try revert u234); (try revert u233); (try revert u232); (try revert u231); (try revert u230); (try revert u229); (try revert u228); (try revert u227); (try revert u226); (try revert u225); (try revert u224); (try revert u223); (try revert u222); (try revert u221); (try revert u220); (try revert u219); (try revert u218); (try revert u217); (try revert u216); (try revert u215); (try revert u214); (try revert u213); (try revert u212); (try revert u211); (try revert u210); (try revert u209); (try revert u208); (try revert u207); (try revert u206); (try revert u205); (try revert u204); (try revert u203); (try revert u202); (try revert u201); (try revert u200); (try revert u199); (try revert u198); (try revert u197); (try revert u196); (try revert u195); (try revert u194); (try revert u193); (try revert u192); (try revert u191); (try revert u190); (try revert u189); (try revert u188); (try revert u187); (try revert u186); (try revert u185); (try revert u184); (try revert u183); (try revert u182); (try revert u181); (try revert u180); (try revert u179); (try revert u178); (try revert u177); (try revert u176); (try revert u175); (try revert u174); (try revert u173); (try revert u172); (try revert u171); (try revert u170); (try revert u169); (try revert u168); (try revert u167); (try revert u166); (try revert u165); (try revert u164); (try revert u163); (try revert u162); (try revert u161); (try revert u160); (try revert u159); (try revert u158); (try revert u157); (try revert u156); (try revert u155); (try revert u154); (try revert u153); (try revert u152); (try revert u151); (try revert u150); (try revert u149); (try revert u148); (try revert u147); (try revert u146); (try revert u145); (try revert u144); (try revert u143); (try revert u142); (try revert u141); (try revert u140); (try revert u139); (try revert u138); (try revert u137); (try revert u136); (try revert u135); (try revert u134); (try revert u133); (try revert u132); (try revert u131); (try revert u130); (try revert u129); (try revert u128); (try revert u127); (try revert u126); (try revert u125); (try revert u124); (try revert u123); (try revert u122); (try revert u121); (try revert u120); (try revert u119); (try revert u118); (try revert u117); (try revert u116); (try revert u115); (try revert u114); (try revert u113); (try revert u112); (try revert u111); (try revert u110); (try revert u109); (try revert u108); (try revert u107); (try revert u106); (try revert u105); (try revert u104); (try revert u103); (try revert u102); (try revert u101); (try revert u100); (try revert u99); (try revert u98); (try revert u97); (try revert u96); (try revert u95); (try revert u94); (try revert u93); (try revert u92); (try revert u91); (try revert u90); (try revert u89); (try revert u88); (try revert u87); (try revert u86); (try revert u85); (try revert u84); (try revert u83); (try revert u82); (try revert u81); (try revert u80); (try revert u79); (try revert u78); (try revert u77); (try revert u76); (try revert u75); (try revert u74); (try revert u73); (try revert u72); (try revert u71); (try revert u70); (try revert u69); (try revert u68); (try revert u67); (try revert u66); (try revert u65); (try revert u64); (try revert u63); (try revert u62); (try revert u61); (try revert u60); (try revert u59); (try revert u58); (try revert u57); (try revert u56); (try revert u55); (try revert u54); (try revert u53); (try revert u52); (try revert u51); (try revert u50); (try revert u49); (try revert u48); (try revert u47); (try revert u46); (try revert u45); (try revert u44); (try revert u43); (try revert u42); (try revert u41); (try revert u40); (try revert u39); (try revert u38); (try revert u37); (try revert u36); (try revert u35); (try revert u34); (try revert u33); (try revert u32); (try revert u31); (try revert u30); (try revert u29); (try revert u28); (try revert u27); (try revert u26); (try revert u25); (try revert u24); (try revert u23); (try revert u22); (try revert u21); (try revert u20); (try revert u19); (try revert u18); (try revert u17); (try revert u16); (try revert u15); (try revert u14); (try revert u13)
        repeat (rename_i Kx; revert Kx)
        exact hT.of
end Go.Proofs.YtpaekgeopmifeaaDoor
