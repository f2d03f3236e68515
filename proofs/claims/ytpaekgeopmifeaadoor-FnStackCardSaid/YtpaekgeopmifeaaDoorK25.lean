/- The draw of right bodies. The draw of right bodies. The draw of right bodies. Draws of bodies: any body, and one in which something goes. -/
import Derived.Test.YtpaekgeopmifeaaDoorK22
import Derived.Deep.DeepCutAuto
import Derived.Test.YtpaekgeopmifeaaDoorK23
import Derived.Test.YtpaekgeopmifeaaDoorK24
import Derived.Test.YtpaekgeopmifeaaDoorK09
namespace Go.Proofs.YtpaekgeopmifeaaDoor
attribute [local go_sem ↓] Go.wp_at_zero Go.wp_at_succ
open Go.RowKit
open Rep (Is sz)
set_option maxRecDepth 20000 in
set_option maxHeartbeats 16000000 in
theorem goodC {p : Nat} {F FL : List Nat} (m : ModuleD) (deep N : Nat) (loc want : Int) (lb : List Int) (w : World) (hd : deep ≤ 3) (hN : N ≤ 6000) (hlb : lb.length ≤ deep) (hw : 0 ≤ want ∧ want ≤ 1) (hloc : In64 loc) (sg : SigIn m) [c : Cur w p] [apF : Apart F [p]] [apL : Apart FL [p]] (ltF : ∀ b ∈ F, b < w.heap.size) (ltL : ∀ b ∈ FL, b < w.heap.size) (a1 : Option Addr) (k1 : Nat) (a2 : Option Addr) (k2 : Nat) (a3 : Option Addr) (k3 : Nat) (a4 : Option Addr) (k4 : Nat) (a5 : Option Addr) (k5 : Nat) (a6 : Option Addr) (k6 : Nat) (kk : Known w F m [.slice a1 m.sigs.length k1, .slice a2 m.imports.length k2, .slice a3 m.funcs.length k3, .int .i64 m.pages, .int .i64 m.most, .slice a4 m.globals.length k4, .slice a5 m.exports.length k5, .slice a6 m.data.length k6]) (i3 : In64 m.pages) (i4 : In64 m.most) (aL : Option Addr) (cL : Nat) (hFL : FL = if lb = [] then [] else blk aL) (hvwL : View w aL 1 lb.length (intVs lb)) (hmlL : lb.length ≤ cL ∧ cL ≤ 2 ^ 63 - 1) (kl : Known w FL lb [.slice aL lb.length cL]) (hinL : Hid (∀ n ∈ lb, In64 n)) (ih : Hid (deep < 3 → ∀ (x : World) (lb2 : List Int) (G : List Nat) (v2 : Value) (want2 : Int), Cur x p → Shows x F m [.slice a1 m.sigs.length k1, .slice a2 m.imports.length k2, .slice a3 m.funcs.length k3, .int .i64 m.pages, .int .i64 m.most, .slice a4 m.globals.length k4, .slice a5 m.exports.length k5, .slice a6 m.data.length k6] → Shows x G lb2 [v2] → Apart G [p] → lb2.length ≤ deep + 1 → (0 ≤ want2 ∧ want2 ≤ 1) → Calls Tryd.prog 35 #[.pointer (some ⟨p, 0, none⟩), .agg [.slice a1 m.sigs.length k1, .slice a2 m.imports.length k2, .slice a3 m.funcs.length k3, .int .i64 m.pages, .int .i64 m.most, .slice a4 m.globals.length k4, .slice a5 m.exports.length k5, .slice a6 m.data.length k6].toArray, .int .i64 loc, .int .i64 want2, .int .i64 ((deep : Int) + 1), v2] x (DrBody p x N))) (htk : Hid (∀ i : InsD, 0 ≤ (takesC m i).1 ∧ (takesC m i).1 ≤ 3 ∧ 0 ≤ (takesC m i).2 ∧ (takesC m i).2 ≤ 1)) (K : Nat) (hK : 5 + 2 * N = K) : (goodSk m deep N loc want lb w hd hN hlb hw hloc sg ltF ltL a1 k1 a2 k2 a3 k3 a4 k4 a5 k5 a6 k6 kk i3 i4 aL cL hFL hvwL hmlL kl hinL ih htk K hK).C := by
  delta goodSk
  dsimp only
  have ag : Arg p w := ⟨c.lt⟩
  have og : Old p w := ⟨c.lt⟩
  have pl := ag.lt
  unhygienic intros
  obtain ⟨rfl, hq, hlp⟩ := cC
  obtain ⟨q, rfl⟩ : ∃ y, q = y + 1 := ⟨q - 1, by omega⟩
  go_wp2_with fail
  with_reducible refine Calls.mono (sbelowC _ _ (by omega)) ?_
  rintro e w6 ⟨x, hx, rfl, cu6, st6⟩
  replace hx : x < lb.length := by omega
  obtain ⟨bl, ol, rfl, hcl, _, hol⟩ := hvwL.get x hx (.int .i64 lb[x]) (by simp [intVs, hx])
  obtain ⟨n0, hn0⟩ : ∃ n0, n0 = lb[x] := ⟨_, rfl⟩
  rw [← hn0] at hcl
  replace hn0 := hid hn0
  have nb : NotIn bl [p] := ⟨fun hm => apL.ne bl (by rw [hFL, if_neg (by intro e; rw [e] at hx; simp at hx)]; simp [blk]) hm⟩
  by_cases h0 : n0 = 0
  · subst h0
    obtain ⟨r1, hr1⟩ : ∃ r1, l ++ [⟨13, (x : Int), 0⟩] = r1 := ⟨_, rfl⟩
    have hlr1 : r1.length ≤ l.length + 1 := by rw [← hr1]; simp
    have hir1 := hid (show ∀ i ∈ r1, In3 i by rw [← hr1]; exact in3_app hil.out (in3_one (show In3 ⟨13, (x : Int), 0⟩ from ⟨by unfold In64; (try simp only []); omega, by unfold In64; (try simp only []); omega, by unfold In64; (try simp only []); omega⟩)))
    go_wp2_with (at_builtin; go_must (refine app_ins1 rfl (.tmp 160) (.tmp 163) 37 rfl 50 Tryd.inss_tab w1.heap.size al cl l rfl (own_px p ownl) _ 1 ⟨13, (x : Int), 0⟩ r1 rfl hr1 (by omega) (FrX.fr (S := [p]) (a := w1)).size ?_); intro ar1 cr1 wr1 ownr1 sxr1 h3r1)
    have abr1 : Abv p (blk ar1) := abv_own ownr1
    have sbr1 : SubX w1 (blk ar1) [p] := sub_own ownr1
    have aFr1 : Apart F (blk ar1) := apart_row ltF ownr1 (by omega)
    have aLr1 : Apart FL (blk ar1) := apart_row ltL ownr1 (by omega)
    as_aux_lemma =>
      go_roundw
      case rel => exact ⟨i, q, ar1, cr1, r1, by omega, by go_num, by go_num, by omega, rfl, hid (by have := hjl2.out; omega), hir1, own_px p ownr1, inferInstance, mkStepX⟩
      case measure => simp [intOf]
  · have e0 : (n0 == 0) = false := beq_eq_false_iff_ne.2 h0
    go_wp2
    as_aux_lemma =>
      go_roundw
      case rel => exact ⟨i, q + 1, al, cl, l, by omega, by go_num, by go_num, by omega, rfl, hid (by have := hjl2.out; omega), hil, own_px p ownl, inferInstance, mkStepX⟩
      case measure => simp [intOf]
end Go.Proofs.YtpaekgeopmifeaaDoor
namespace Go.Proofs.YtpaekgeopmifeaaDoor
attribute [local go_sem ↓] Go.wp_at_zero Go.wp_at_succ
open Go.RowKit
open Rep (Is sz)
set_option maxRecDepth 20000 in
set_option maxHeartbeats 16000000 in
theorem goodT {p : Nat} {F FL : List Nat} (m : ModuleD) (deep N : Nat) (loc want : Int) (lb : List Int) (w : World) (hd : deep ≤ 3) (hN : N ≤ 6000) (hlb : lb.length ≤ deep) (hw : 0 ≤ want ∧ want ≤ 1) (hloc : In64 loc) (sg : SigIn m) [c : Cur w p] [apF : Apart F [p]] [apL : Apart FL [p]] (ltF : ∀ b ∈ F, b < w.heap.size) (ltL : ∀ b ∈ FL, b < w.heap.size) (a1 : Option Addr) (k1 : Nat) (a2 : Option Addr) (k2 : Nat) (a3 : Option Addr) (k3 : Nat) (a4 : Option Addr) (k4 : Nat) (a5 : Option Addr) (k5 : Nat) (a6 : Option Addr) (k6 : Nat) (kk : Known w F m [.slice a1 m.sigs.length k1, .slice a2 m.imports.length k2, .slice a3 m.funcs.length k3, .int .i64 m.pages, .int .i64 m.most, .slice a4 m.globals.length k4, .slice a5 m.exports.length k5, .slice a6 m.data.length k6]) (i3 : In64 m.pages) (i4 : In64 m.most) (aL : Option Addr) (cL : Nat) (hFL : FL = if lb = [] then [] else blk aL) (hvwL : View w aL 1 lb.length (intVs lb)) (hmlL : lb.length ≤ cL ∧ cL ≤ 2 ^ 63 - 1) (kl : Known w FL lb [.slice aL lb.length cL]) (hinL : Hid (∀ n ∈ lb, In64 n)) (ih : Hid (deep < 3 → ∀ (x : World) (lb2 : List Int) (G : List Nat) (v2 : Value) (want2 : Int), Cur x p → Shows x F m [.slice a1 m.sigs.length k1, .slice a2 m.imports.length k2, .slice a3 m.funcs.length k3, .int .i64 m.pages, .int .i64 m.most, .slice a4 m.globals.length k4, .slice a5 m.exports.length k5, .slice a6 m.data.length k6] → Shows x G lb2 [v2] → Apart G [p] → lb2.length ≤ deep + 1 → (0 ≤ want2 ∧ want2 ≤ 1) → Calls Tryd.prog 35 #[.pointer (some ⟨p, 0, none⟩), .agg [.slice a1 m.sigs.length k1, .slice a2 m.imports.length k2, .slice a3 m.funcs.length k3, .int .i64 m.pages, .int .i64 m.most, .slice a4 m.globals.length k4, .slice a5 m.exports.length k5, .slice a6 m.data.length k6].toArray, .int .i64 loc, .int .i64 want2, .int .i64 ((deep : Int) + 1), v2] x (DrBody p x N))) (htk : Hid (∀ i : InsD, 0 ≤ (takesC m i).1 ∧ (takesC m i).1 ≤ 3 ∧ 0 ≤ (takesC m i).2 ∧ (takesC m i).2 ≤ 1)) (K : Nat) (hK : 5 + 2 * N = K) : (goodSk m deep N loc want lb w hd hN hlb hw hloc sg ltF ltL a1 k1 a2 k2 a3 k3 a4 k4 a5 k5 a6 k6 kk i3 i4 aL cL hFL hvwL hmlL kl hinL ih htk K hK).T := by
  delta goodSk
  dsimp only
  have ag : Arg p w := ⟨c.lt⟩
  have og : Old p w := ⟨c.lt⟩
  have pl := ag.lt
  unhygienic intros
  have hl9 : l.length ≤ 6 * K := by have := hjl.out; omega
  have hq9 : q ≤ 6 := by omega
  clear hjl
  go_wp2_with fail
  go_loopw [13, 14] (fun o hh wx => ∃ (g : Nat) (ag : Option Addr) (cg : Nat) (lg : List InsD), hh = .int .i64 g ∧ o = .slice ag lg.length cg ∧ g ≤ q ∧ lg.length + g ≤ l.length + q ∧ Hid (∀ i ∈ lg, In3 i) ∧ wx.ownsRow w1.heap.size 50 3 (.slice ag lg.length cg) lg.length (lg.flatMap insVs) ∧ Cur wx p ∧ StepX [p] w1 wx) (fun _ hh _ => (intOf hh).toNat)
  case atStart => exact ⟨q, al, cl, l, rfl, rfl, by omega, by omega, hil, ownl, inferInstance, mkStepX⟩
  case round =>
    obtain ⟨g, ag9, cg, lg, rfl, rfl, hgq, hlg, hig, owng, cug, stg⟩ := hrel
    have abg : Abv p (blk ag9) := abv_own owng
    have sbg : SubX w1 (blk ag9) [p] := sub_own owng
    by_cases hgw : want < (g : Int)
    · obtain ⟨g, rfl⟩ : ∃ y, g = y + 1 := ⟨g - 1, by omega⟩
      obtain ⟨r1, hr1⟩ : ∃ r1, lg ++ [⟨26, 0, 0⟩] = r1 := ⟨_, rfl⟩
      have hlr1 : r1.length ≤ lg.length + 1 := by rw [← hr1]; simp
      have hir1 := hid (show ∀ i ∈ r1, In3 i by rw [← hr1]; exact in3_app hig.out (in3_one (show In3 ⟨26, 0, 0⟩ from ⟨by unfold In64; (try simp only []); omega, by unfold In64; (try simp only []); omega, by unfold In64; (try simp only []); omega⟩)))
      go_wp2_with (at_builtin; go_must (refine app_ins1 rfl (.tmp 247) (.tmp 249) 37 rfl 50 Tryd.inss_tab w1.heap.size ag9 cg lg rfl (own_px p owng) _ 1 ⟨26, 0, 0⟩ r1 rfl hr1 (by omega) (FrX.fr (S := [p]) (a := w1)).size ?_); intro ar1 cr1 wr1 ownr1 sxr1 h3r1)
      go_roundw
      case rel => exact ⟨g, ar1, cr1, r1, by go_num, rfl, by omega, by omega, hir1, ownr1, inferInstance, mkStepX⟩
      case measure => simp [intOf]
    · go_wp2_with fail
      go_loopw [13, 14] (fun o hh wx => ∃ (g : Nat) (ag : Option Addr) (cg : Nat) (lg : List InsD), hh = .int .i64 g ∧ o = .slice ag lg.length cg ∧ (g : Int) ≤ want ∧ lg.length ≤ 6 * K + 6 + g ∧ Hid (∀ i ∈ lg, In3 i) ∧ wx.ownsRow w1.heap.size 50 3 (.slice ag lg.length cg) lg.length (lg.flatMap insVs) ∧ Cur wx p ∧ StepX [p] w1 wx) (fun _ hh _ => (want - intOf hh).toNat)
      case atStart => exact ⟨g, ag9, cg, lg, rfl, rfl, by omega, by omega, hig, owng, inferInstance, mkStepX⟩
      case round =>
        clear owng hig hlg abg sbg
        obtain ⟨g, ag9, cg, lg, rfl, rfl, hgq, hlg, hig, owng, cug, stg⟩ := hrel
        have abg : Abv p (blk ag9) := abv_own owng
        have sbg : SubX w1 (blk ag9) [p] := sub_own owng
        by_cases hgw : (g : Int) < want
        · go_wp2_with fail
          with_reducible refine Calls.mono (sbelowC _ _ (by omega)) ?_
          rintro e wz ⟨y9, hy9, rfl, cuz, stz⟩
          obtain ⟨r1, hr1⟩ : ∃ r1, lg ++ [⟨65, (y9 : Int), 0⟩] = r1 := ⟨_, rfl⟩
          have hlr1 : r1.length ≤ lg.length + 1 := by rw [← hr1]; simp
          have hir1 := hid (show ∀ i ∈ r1, In3 i by rw [← hr1]; exact in3_app hig.out (in3_one (show In3 ⟨65, (y9 : Int), 0⟩ from ⟨by unfold In64; (try simp only []); omega, by unfold In64; (try simp only []); omega, by unfold In64; (try simp only []); omega⟩)))
          go_wp2_with (at_builtin; go_must (refine app_ins1 rfl (.tmp 256) (.tmp 260) 37 rfl 50 Tryd.inss_tab w1.heap.size ag9 cg lg rfl (own_px p owng) _ 1 ⟨65, (y9 : Int), 0⟩ r1 rfl hr1 (by omega) (FrX.fr (S := [p]) (a := w1)).size ?_); intro ar1 cr1 wr1 ownr1 sxr1 h3r1)
          go_roundw
          case rel => exact ⟨g + 1, ar1, cr1, r1, by go_num, rfl, by omega, by omega, hir1, ownr1, inferInstance, mkStepX⟩
          case measure => simp [intOf]; omega
        · go_wp2
          go_ret
          exact ⟨ag9, cg, lg, rfl, by omega, hig, ownsRow_mono owng (by omega), inferInstance, mkStepX⟩
end Go.Proofs.YtpaekgeopmifeaaDoor
namespace Go.Proofs.YtpaekgeopmifeaaDoor
attribute [local go_sem ↓] Go.wp_at_zero Go.wp_at_succ
open Go.RowKit
open Rep (Is sz)
set_option maxRecDepth 20000 in
set_option maxHeartbeats 16000000 in
/-- A drawn right body, so deep; the deeper ones are known. -/
theorem sgoodS {p : Nat} {F FL : List Nat} {M : MH} {v : Value} (m : ModuleD) (deep N : Nat) (loc want : Int) (lb : List Int) (w : World) (hd : deep ≤ 3) (hN : N ≤ 6000) (hlb : lb.length ≤ deep) (hw : 0 ≤ want ∧ want ≤ 1) (hloc : In64 loc) (sg : SigIn m)
    (htk : ∀ i : InsD, 0 ≤ (takesC m i).1 ∧ (takesC m i).1 ≤ 3 ∧ 0 ≤ (takesC m i).2 ∧ (takesC m i).2 ≤ 1)
    [c : Cur w p] [hm : Shows w F m M.cells] [hl : Shows w FL lb [v]] [apF : Apart F [p]] [apL : Apart FL [p]]
    (ih : deep < 3 → ∀ (x : World) (lb2 : List Int) (G : List Nat) (v2 : Value) (want2 : Int), Cur x p → Shows x F m M.cells → Shows x G lb2 [v2] → Apart G [p] → lb2.length ≤ deep + 1 → (0 ≤ want2 ∧ want2 ≤ 1) → Calls Tryd.prog 35 #[.pointer (some ⟨p, 0, none⟩), .agg M.cells.toArray, .int .i64 loc, .int .i64 want2, .int .i64 ((deep : Int) + 1), v2] x (DrBody p x N)) :
    Calls Tryd.prog 35 #[.pointer (some ⟨p, 0, none⟩), .agg M.cells.toArray, .int .i64 loc, .int .i64 want, .int .i64 deep, v] w (DrBody p w (6 * (5 + 2 * N) + 7)) := by
  have ag : Arg p w := ⟨c.lt⟩
  have og : Old p w := ⟨c.lt⟩
  have pl := ag.lt
  have kk := hm.known
  have ltF : ∀ b ∈ F, b < w.heap.size := Rep.lt hm.is
  have ltL : ∀ b ∈ FL, b < w.heap.size := Rep.lt hl.is
  obtain ⟨a1, k1, a2, k2, a3, k3, a4, k4, a5, k5, a6, k6, F1, F2, F3, F4, F5, F6, rfl, hF, h1, h2, h3, h4, h5, h6, i3, i4⟩ := mh_open hm.is
  clear hm h1 h2 h3 h4 h5 h6
  have kl := hl.known
  obtain ⟨aL, cL, hvL, hFL, hvwL, hinL, hmlL⟩ := ints_open hl.is
  cases hvL
  clear hl
  unfold maxLen at hmlL
  replace hinL := hid hinL
  have ih : deep < 3 → ∀ (x : World) (lb2 : List Int) (G : List Nat) (v2 : Value) (want2 : Int), Cur x p → Shows x F m [.slice a1 m.sigs.length k1, .slice a2 m.imports.length k2, .slice a3 m.funcs.length k3, .int .i64 m.pages, .int .i64 m.most, .slice a4 m.globals.length k4, .slice a5 m.exports.length k5, .slice a6 m.data.length k6] → Shows x G lb2 [v2] → Apart G [p] → lb2.length ≤ deep + 1 → (0 ≤ want2 ∧ want2 ≤ 1) → Calls Tryd.prog 35 #[.pointer (some ⟨p, 0, none⟩), .agg #[.slice a1 m.sigs.length k1, .slice a2 m.imports.length k2, .slice a3 m.funcs.length k3, .int .i64 m.pages, .int .i64 m.most, .slice a4 m.globals.length k4, .slice a5 m.exports.length k5, .slice a6 m.data.length k6], .int .i64 loc, .int .i64 want2, .int .i64 ((deep : Int) + 1), v2] x (DrBody p x N) := ih
  replace ih := hid ih
  replace htk := hid htk
  obtain ⟨K, hK⟩ : ∃ K, 5 + 2 * N = K := ⟨_, rfl⟩
  rw [hK]
  exact (goodSk m deep N loc want lb w hd hN hlb hw hloc sg ltF ltL a1 k1 a2 k2 a3 k3 a4 k4 a5 k5 a6 k6 kk i3 i4 aL cL hFL hvwL hmlL kl hinL ih htk K hK).ok ⟨goodA m deep N loc want lb w hd hN hlb hw hloc sg ltF ltL a1 k1 a2 k2 a3 k3 a4 k4 a5 k5 a6 k6 kk i3 i4 aL cL hFL hvwL hmlL kl hinL ih htk K hK⟩ ⟨goodB m deep N loc want lb w hd hN hlb hw hloc sg ltF ltL a1 k1 a2 k2 a3 k3 a4 k4 a5 k5 a6 k6 kk i3 i4 aL cL hFL hvwL hmlL kl hinL ih htk K hK⟩ ⟨goodC m deep N loc want lb w hd hN hlb hw hloc sg ltF ltL a1 k1 a2 k2 a3 k3 a4 k4 a5 k5 a6 k6 kk i3 i4 aL cL hFL hvwL hmlL kl hinL ih htk K hK⟩ ⟨goodT m deep N loc want lb w hd hN hlb hw hloc sg ltF ltL a1 k1 a2 k2 a3 k3 a4 k4 a5 k5 a6 k6 kk i3 i4 aL cL hFL hvwL hmlL kl hinL ih htk K hK⟩
end Go.Proofs.YtpaekgeopmifeaaDoor
namespace Go.Proofs.YtpaekgeopmifeaaDoor
attribute [local go_sem ↓] Go.wp_at_zero Go.wp_at_succ
open Go.RowKit
open Rep (Is sz)

theorem sdraw0 {p : Nat} (w : World) [c : Cur w p] : Calls Tryd.prog 20 #[.pointer (some ⟨p, 0, none⟩), .int .i64 0] w (DrBody p w 8000) := by
  have s3 : ∀ m, Cur m p → Calls Tryd.prog 20 #[.pointer (some ⟨p, 0, none⟩), .int .i64 ((3 : Nat) : Int)] m (DrBody p m 12) := fun m h => sdrawS 3 0 m (by omega) (by omega) (fun h => absurd h (by omega))
  have s2 : ∀ m, Cur m p → Calls Tryd.prog 20 #[.pointer (some ⟨p, 0, none⟩), .int .i64 ((2 : Nat) : Int)] m (DrBody p m 108) := fun m h => sdrawS 2 12 m (by omega) (by omega) (fun _ => s3)
  have s1 : ∀ m, Cur m p → Calls Tryd.prog 20 #[.pointer (some ⟨p, 0, none⟩), .int .i64 ((1 : Nat) : Int)] m (DrBody p m 876) := fun m h => sdrawS 1 108 m (by omega) (by omega) (fun _ => s2)
  have s0 := sdrawS (p := p) 0 876 w (by omega) (by omega) (fun _ => s1)
  refine Calls.mono (show Calls Tryd.prog 20 #[.pointer (some ⟨p, 0, none⟩), .int .i64 0] w _ from s0) ?_
  rintro e w1 ⟨ao, co, l, rfl, hl, hr⟩
  exact ⟨ao, co, l, rfl, by omega, hr⟩
/-- What a drawn body is that may begin within its block. -/
def DrRow (p : Nat) (w : World) (L : Nat) (e : Ending) (w' : World) : Prop :=
  ∃ (ao : Option Addr) (co : Nat) (l : List InsD), e = .returned (.slice ao l.length co) ∧ l.length ≤ L ∧ Hid (∀ i ∈ l, In3 i) ∧ RowO w' w.heap.size 50 3 ao l.length co (l.flatMap insVs) ∧ Cur w' p ∧ StepX [p] w w'
end Go.Proofs.YtpaekgeopmifeaaDoor
