/- A law's argument that is a slice, or a struct, as plain data. Laid tables of utf8 as the law's row lists them. Contracts: OpsOf, both sides. Contracts: impl's FormOk. Contracts: Saved, both sides. -/
import Derived.Test.YtnldaicibnkeoaaGreatDoorHelp
import Derived.Test.YtnldaicibnkeoaaGreatDoorFormN
import Derived.MakeChecks
import Derived.Test.YtnldaicibnkeoaaGreatDoorFormT
import Derived.Test.YtnldaicibnkeoaaGreatDoorFormIa
import Derived.Test.YtnldaicibnkeoaaGreatDoorFormIb
import Derived.Test.YtnldaicibnkeoaaGreatDoorKf
namespace Go.Proofs.YtnldaicibnkeoaaGreatDoor
open Go.RowKit Go.ChangeShapes Go.WideShapes
open Rep (Is sz)

theorem Opens.args {P : Program} {t e : TypeId} {α : Type} [Rep α] (h : Opens P t (List α)) (ht : P.underlying t = some (.slice e)) {H : Type} {enc : TypeId × Value → H} {W : World} {base : Nat} {d0 : DataW H} {p0 : List MemPlace} {v0 : Value}
    (k0 : Value.okWide P W .any base t v0) (h0 : DataW.Trod enc P W 0 (fun _ => true) true t v0 d0 p0) (n0 : W.noneFrozen p0) : ∃ (x : List α) (F : List Nat), Known W F x [v0] := by
  obtain ⟨a, len, cap, rfl⟩ := okWide_slice ht k0
  obtain ⟨fuel, h0⟩ := h0
  obtain ⟨x, F, hI⟩ := h.2 enc W fuel _ _ _ h0 n0
  exact ⟨x, F, ⟨hI⟩⟩

/-- A law's argument that is a struct, as plain data. -/
theorem Opens.argR {P : Program} {t : TypeId} {fs : Array Field} {α : Type} [Rep α] (h : Opens P t α) (ht : P.underlying t = some (.struct fs)) {H : Type} {enc : TypeId × Value → H} {W : World} {base : Nat} {d0 : DataW H} {p0 : List MemPlace} {v0 : Value}
    (k0 : Value.okWide P W .any base t v0) (h0 : DataW.Trod enc P W 0 (fun _ => true) true t v0 d0 p0) (n0 : W.noneFrozen p0) : ∃ (x : α) (F : List Nat) (cs : List Value), v0 = .agg cs.toArray ∧ Is W F x cs := by
  unfold Value.okWide at k0
  rw [ht] at k0
  obtain ⟨cs, rfl, _⟩ := k0
  obtain ⟨fuel, h0⟩ := h0
  obtain ⟨x, F, hI⟩ := h.2 enc W fuel _ _ _ h0 n0
  exact ⟨x, F, cs.toList, by simp, hI⟩
end Go.Proofs.YtnldaicibnkeoaaGreatDoor
namespace Go.Proofs.YtnldaicibnkeoaaGreatDoor
open Go.RowKit Go.ChangeShapes Go.WideShapes
open Rep (Is sz)

theorem u8_of {W : World} (h3 : Lib.VarReads Tryz.prog W "unicode/utf8.first" Lib.firstData) (h4 : Lib.VarReads Tryz.prog W "unicode/utf8.acceptRanges" Lib.acceptData) : U8 W :=
  utf8Tabs_of_readsT (U8Types.of196 Tryz.laysValid) ⟨by kernel_rfl, by kernel_rfl, by kernel_rfl, by kernel_rfl, by kernel_rfl, by kernel_rfl, by kernel_rfl⟩ h3 h4
end Go.Proofs.YtnldaicibnkeoaaGreatDoor
namespace Go.Proofs.YtnldaicibnkeoaaGreatDoor
attribute [local go_sem ↓] Go.wp_at_zero Go.wp_at_succ
open Go.RowKit
open Rep (Is sz)

def cntOp (op : Int) (l : List InsD) : Nat := (l.filter fun i => decide (i.op = op)).length
def opsOf (m : ModuleD) (op : Int) : Nat := (m.funcs.map fun f => cntOp op f.body).sum
noncomputable def opsRes (m : ModuleD) (op : Int) : Int := if pB (FormP m) = true then (opsOf m op : Int) else -1
theorem opsRes_no {m : ModuleD} {op : Int} (q : pB (FormP m) = false) : opsRes m op = -1 := by unfold opsRes; rw [q]; rfl
theorem opsRes_yes {m : ModuleD} {op : Int} (q : pB (FormP m) = true) : opsRes m op = opsOf m op := if_pos q
theorem cntOp_yes {op : Int} {l : List InsD} {k : Nat} (h : k < l.length) (he : l[k].op = op) : cntOp op (l.take (k + 1)) = cntOp op (l.take k) + 1 := by
  unfold cntOp
  rw [List.take_succ_eq_append_getElem h, List.filter_append, List.length_append]
  simp [he]
theorem cntOp_no {op : Int} {l : List InsD} {k : Nat} (h : k < l.length) (he : ¬ l[k].op = op) : cntOp op (l.take (k + 1)) = cntOp op (l.take k) := by
  unfold cntOp
  rw [List.take_succ_eq_append_getElem h, List.filter_append, List.length_append]
  simp [he]
theorem sum_le {α : Type} (f g : α → Nat) (h : ∀ x, f x ≤ g x) : ∀ l : List α, (l.map f).sum ≤ (l.map g).sum
  | [] => by simp
  | x :: l => by simp only [List.map_cons, List.sum_cons]; have := h x; have := sum_le f g h l; omega
theorem bodies_le (m : ModuleD) (hb : moduleCost m ≤ 1048576) : (m.funcs.map fun f => f.body.length).sum ≤ 1048576 := by
  have h1 := sum_le (fun f : FuncD => f.body.length) funcCost (fun f => by unfold funcCost inssCost; omega) m.funcs
  unfold moduleCost funcsCost at hb
  omega
end Go.Proofs.YtnldaicibnkeoaaGreatDoor
namespace Go.Proofs.YtnldaicibnkeoaaGreatDoor
open Go.RowKit
open Rep (Is sz)

theorem iform {F : List Nat} {cs : List Value} (m : ModuleD) (w : World) (hb : moduleCost m ≤ 1048576) [h : Shows w F m cs] [hU : HasU8 w] : Calls Tryz.prog 23 #[.agg cs.toArray] w fun e w' => e = .returned (.bool (pB (FormP m))) ∧ Step w w' := by
  by_cases e1 : m.most = -1
  · exact iform_a m w hb e1
  · exact iform_b m w hb e1
end Go.Proofs.YtnldaicibnkeoaaGreatDoor
namespace Go.Proofs.YtnldaicibnkeoaaGreatDoor
attribute [local go_sem ↓] Go.wp_at_zero Go.wp_at_succ
open Go.RowKit
open Rep (Is sz)

def savedOf (m : ModuleD) : Nat := (m.funcs.map fun f => f.body.length - (peepBody f.body).length).sum
noncomputable def savedRes (m : ModuleD) : Int := if pB (FormP m) = true then (savedOf m : Int) else -1
theorem savedRes_no {m : ModuleD} (q : pB (FormP m) = false) : savedRes m = -1 := by unfold savedRes; rw [q]; rfl
theorem savedRes_yes {m : ModuleD} (q : pB (FormP m) = true) : savedRes m = savedOf m := if_pos q

set_option maxHeartbeats 4000000 in
theorem ssaved {F : List Nat} {cs : List Value} (m : ModuleD) (w : World) (hb : moduleCost m ≤ 1048576) [h : Shows w F m cs] : Calls Tryz.prog 5 #[.agg cs.toArray] w fun e w' => e = .returned (.int .i64 (savedRes m)) ∧ Step w w' := by
  obtain ⟨a1, k1, a2, k2, a3, k3, a4, k4, a5, k5, a6, k6, F1, F2, F3, F4, F5, F6, rfl, rfl, h1, h2, h3, h4, h5, h6, i3, i4⟩ := module_open h.is
  have kk := h.known
  clear h
  obtain ⟨_, _, cl3, FF3, hv, _, hvw3, hr3, hml3⟩ := list_open h3
  cases hv
  unfold maxLen at hml3
  have hB := hid (bodies_le m hb)
  have hl3 : m.funcs.length ≤ 1048576 := by unfold moduleCost funcsCost at hb; omega
  go_enter Tryz.func5, Tryz.ntmps5
  go_wp2_with fail
  with_reducible refine Calls.mono (sform _ _ (by assumption)) ?_
  rintro e w2 ⟨rfl, st0⟩
  cases q : pB (FormP m)
  · have hz := hid (savedRes_no q)
    go_wp2
    go_ret
    exact ⟨by rw [hz.out]; rfl, mkStep⟩
  have hy := hid (savedRes_yes q)
  go_wp2
  refine wp_name ?_
  intro A sA
  go_loopw [3, 12] (fun r i wr => ∃ k n : Nat, k ≤ m.funcs.length ∧ i = .int .i64 k ∧ r = .int .i64 n ∧ Step A wr ∧ Hid (n = ((m.funcs.take k).map fun f => f.body.length - (peepBody f.body).length).sum) ∧ Hid (n ≤ ((m.funcs.take k).map fun f => f.body.length).sum)) (fun _ i _ => m.funcs.length - (intOf i).toNat)
  case atStart => exact ⟨0, 0, by omega, rfl, rfl, mkStep, hid rfl, hid (by simp)⟩
  case round =>
    obtain ⟨k, n, hk, rfl, rfl, st, hn, hnl⟩ := hrel
    by_cases hlt : k < m.funcs.length
    · clear hk
      have t1 := sum_take (fun f : FuncD => f.body.length) m.funcs k hlt
      have t2 := sum_take_le (fun f : FuncD => f.body.length) m.funcs (k + 1)
      have t3 := sum_take (fun f : FuncD => f.body.length - (peepBody f.body).length) m.funcs k hlt
      have hB2 := hB.out
      have hnl2 := hnl.out
      have hnb : n + m.funcs[k].body.length ≤ 1048576 := by omega
      have hpl := peepBody_len m.funcs[k].body
      have hnl3 := hid (show n + (m.funcs[k].body.length - (peepBody m.funcs[k].body).length) ≤ ((m.funcs.take (k + 1)).map fun f => f.body.length).sum by omega)
      have hn3 := hid (show n + (m.funcs[k].body.length - (peepBody m.funcs[k].body).length) = ((m.funcs.take (k + 1)).map fun f => f.body.length - (peepBody f.body).length).sum by rw [t3, hn.out])
      clear t1 t2 t3 hB2 hnl2
      obtain ⟨be, oe, Ge, cse, rfl, hGe, hIe, hce, hoe⟩ := hvw3.row hr3 rfl (by decide) k hlt
      have hI0e := hIe
      obtain ⟨a1e, k1e, F1e, rfl, rfl, h1e, i0e, i1e⟩ := func_open hI0e
      have kee : Known w _ m.funcs[k] _ := ⟨hIe⟩
      have c0e := (hce 0 _ rfl).1
      replace c0e : w.cell? ⟨be, oe + k * 3, none⟩ = _ := c0e
      have c1e := (hce 1 _ rfl).1
      replace c1e : w.cell? ⟨be, oe + k * 3 + 1, none⟩ = _ := c1e
      have c2e := (hce 2 _ rfl).1
      replace c2e : w.cell? ⟨be, oe + k * 3 + 2, none⟩ = _ := c2e
      clear hce
      have kb : Known w _ m.funcs[k].body _ := ⟨h1e⟩
      go_wp2_with fail
      refine rg_begin0 (n := 11) (by kernel_rfl) rfl fun rg0 => ?_
      refine rg_read (i := 0) (a1 := _) rfl (by kernel_rfl) rfl (by simp) (by intro wq hwq; go_wp2; exact ⟨rfl, rfl⟩) mkStep ?_
      refine rg_read (i := 1) (a1 := _) rfl (by kernel_rfl) rfl (by simp) (by intro wq hwq; go_wp2; exact ⟨rfl, rfl⟩) mkStep ?_
      refine rg_read (i := 2) (a1 := _) rfl (by kernel_rfl) rfl (by simp) (by intro wq hwq; go_wp2; exact ⟨rfl, rfl⟩) mkStep ?_
      refine rg_read (i := 3) (a1 := _) rfl (by kernel_rfl) rfl (by simp) (by intro wq hwq; go_wp2; exact ⟨rfl, rfl⟩) mkStep ?_
      refine rg_read (i := 4) (a1 := _) rfl (by kernel_rfl) rfl (by simp) (by intro wq hwq; go_wp2; exact ⟨rfl, rfl⟩) mkStep ?_
      refine rg_read (i := 5) (a1 := _) rfl (by kernel_rfl) rfl (by simp) (by intro wq hwq; go_wp2; exact ⟨rfl, rfl⟩) mkStep ?_
      refine rg_read (i := 6) (a1 := _) rfl (by kernel_rfl) rfl (by simp) (by intro wq hwq; go_wp2; exact ⟨rfl, rfl⟩) mkStep ?_
      refine rg_eff (i := 7) rfl (by kernel_rfl) ?_
      simp only [List.getElem_toArray, List.getElem_cons_succ, List.getElem_cons_zero]
      go_wp2_with (first | (go_at_call 16; (with_reducible refine Calls.mono (spbody m.funcs[k].body _ (by omega)) ?_); rintro e wk ⟨ap, cp, Gp, rfl, kp, np, st5⟩))
      refine ⟨mkStep, ?_⟩
      refine rg_read (i := 8) (a1 := _) rfl (by kernel_rfl) rfl (by simp) (by intro wq hwq; go_wp2; exact ⟨rfl, rfl⟩) mkStep ?_
      refine rg_read (i := 9) (a1 := _) rfl (by kernel_rfl) rfl (by simp) (by intro wq hwq; go_wp2; exact ⟨rfl, rfl⟩) mkStep ?_
      refine rg_read (i := 10) (a1 := _) rfl (by kernel_rfl) rfl (by simp) (by intro wq hwq; go_wp2; exact ⟨rfl, rfl⟩) mkStep ?_
      refine rg_done (by kernel_rfl) ?_
      go_wp2_with fail
      go_roundw
      case rel => exact ⟨k + 1, n + (m.funcs[k].body.length - (peepBody m.funcs[k].body).length), by omega, by go_num, congrArg (Value.int .i64) (by omega), mkStep, hn3, hnl3⟩
      case measure => simp [intOf]; omega
    · have hz := hid (show (n : Int) = savedOf m by rw [hn.out, List.take_of_length_le (by omega)]; rfl)
      go_wp2
      go_ret
      exact ⟨by rw [hy.out]; exact ret_int hz.out, mkStep⟩

set_option maxHeartbeats 4000000 in
theorem isaved {F : List Nat} {cs : List Value} (m : ModuleD) (w : World) (hb : moduleCost m ≤ 1048576) [h : Shows w F m cs] [hU : HasU8 w] [hZ : HasTz w] : Calls Tryz.prog 7 #[.agg cs.toArray] w fun e w' => e = .returned (.int .i64 (savedRes m)) ∧ Step w w' := by
  obtain ⟨a1, k1, a2, k2, a3, k3, a4, k4, a5, k5, a6, k6, F1, F2, F3, F4, F5, F6, rfl, rfl, h1, h2, h3, h4, h5, h6, i3, i4⟩ := module_open h.is
  have kk := h.known
  clear h
  have ka := hU.known
  have kz := hZ.known
  obtain ⟨_, _, cl3, FF3, hv, _, hvw3, hr3, hml3⟩ := list_open h3
  cases hv
  unfold maxLen at hml3
  have hB := hid (bodies_le m hb)
  have hl3 : m.funcs.length ≤ 1048576 := by unfold moduleCost funcsCost at hb; omega
  go_enter Tryz.func7, Tryz.ntmps7
  go_wp2_with fail
  with_reducible refine Calls.mono (iform _ _ (by assumption)) ?_
  rintro e w2 ⟨rfl, st0⟩
  cases q : pB (FormP m)
  · have hz := hid (savedRes_no q)
    go_wp2
    go_ret
    exact ⟨by rw [hz.out]; rfl, mkStep⟩
  have hy := hid (savedRes_yes q)
  go_wp2
  refine wp_name ?_
  intro A sA
  go_loopw [3, 12] (fun r i wr => ∃ k n : Nat, k ≤ m.funcs.length ∧ i = .int .i64 k ∧ r = .int .i64 n ∧ Step A wr ∧ Hid (n = ((m.funcs.take k).map fun f => f.body.length - (peepBody f.body).length).sum) ∧ Hid (n ≤ ((m.funcs.take k).map fun f => f.body.length).sum)) (fun _ i _ => m.funcs.length - (intOf i).toNat)
  case atStart => exact ⟨0, 0, by omega, rfl, rfl, mkStep, hid rfl, hid (by simp)⟩
  case round =>
    obtain ⟨k, n, hk, rfl, rfl, st, hn, hnl⟩ := hrel
    by_cases hlt : k < m.funcs.length
    · clear hk
      have t1 := sum_take (fun f : FuncD => f.body.length) m.funcs k hlt
      have t2 := sum_take_le (fun f : FuncD => f.body.length) m.funcs (k + 1)
      have t3 := sum_take (fun f : FuncD => f.body.length - (peepBody f.body).length) m.funcs k hlt
      have hB2 := hB.out
      have hnl2 := hnl.out
      have hnb : n + m.funcs[k].body.length ≤ 1048576 := by omega
      have hpl := peepBody_len m.funcs[k].body
      have hnl3 := hid (show n + (m.funcs[k].body.length - (peepBody m.funcs[k].body).length) ≤ ((m.funcs.take (k + 1)).map fun f => f.body.length).sum by omega)
      have hn3 := hid (show n + (m.funcs[k].body.length - (peepBody m.funcs[k].body).length) = ((m.funcs.take (k + 1)).map fun f => f.body.length - (peepBody f.body).length).sum by rw [t3, hn.out])
      clear t1 t2 t3 hB2 hnl2
      obtain ⟨be, oe, Ge, cse, rfl, hGe, hIe, hce, hoe⟩ := hvw3.row hr3 rfl (by decide) k hlt
      have hI0e := hIe
      obtain ⟨a1e, k1e, F1e, rfl, rfl, h1e, i0e, i1e⟩ := func_open hI0e
      have kee : Known w _ m.funcs[k] _ := ⟨hIe⟩
      have c0e := (hce 0 _ rfl).1
      replace c0e : w.cell? ⟨be, oe + k * 3, none⟩ = _ := c0e
      have c1e := (hce 1 _ rfl).1
      replace c1e : w.cell? ⟨be, oe + k * 3 + 1, none⟩ = _ := c1e
      have c2e := (hce 2 _ rfl).1
      replace c2e : w.cell? ⟨be, oe + k * 3 + 2, none⟩ = _ := c2e
      clear hce
      have kb : Known w _ m.funcs[k].body _ := ⟨h1e⟩
      go_wp2_with fail
      refine rg_begin0 (n := 11) (by kernel_rfl) rfl fun rg0 => ?_
      refine rg_read (i := 0) (a1 := _) rfl (by kernel_rfl) rfl (by simp) (by intro wq hwq; go_wp2; exact ⟨rfl, rfl⟩) mkStep ?_
      refine rg_read (i := 1) (a1 := _) rfl (by kernel_rfl) rfl (by simp) (by intro wq hwq; go_wp2; exact ⟨rfl, rfl⟩) mkStep ?_
      refine rg_read (i := 2) (a1 := _) rfl (by kernel_rfl) rfl (by simp) (by intro wq hwq; go_wp2; exact ⟨rfl, rfl⟩) mkStep ?_
      refine rg_read (i := 3) (a1 := _) rfl (by kernel_rfl) rfl (by simp) (by intro wq hwq; go_wp2; exact ⟨rfl, rfl⟩) mkStep ?_
      refine rg_read (i := 4) (a1 := _) rfl (by kernel_rfl) rfl (by simp) (by intro wq hwq; go_wp2; exact ⟨rfl, rfl⟩) mkStep ?_
      refine rg_read (i := 5) (a1 := _) rfl (by kernel_rfl) rfl (by simp) (by intro wq hwq; go_wp2; exact ⟨rfl, rfl⟩) mkStep ?_
      refine rg_eff (i := 6) rfl (by kernel_rfl) ?_
      simp only [List.getElem_toArray, List.getElem_cons_succ, List.getElem_cons_zero]
      go_wp2_with (first | (go_at_call 24; (with_reducible refine Calls.mono (ipbody m.funcs[k].body _ (by omega)) ?_); rintro e wk ⟨ap, cp, Gp, rfl, kp, np, st5⟩))
      refine ⟨mkStep, ?_⟩
      refine rg_read (i := 7) (a1 := _) rfl (by kernel_rfl) rfl (by simp) (by intro wq hwq; go_wp2; exact ⟨rfl, rfl⟩) mkStep ?_
      refine rg_read (i := 8) (a1 := _) rfl (by kernel_rfl) rfl (by simp) (by intro wq hwq; go_wp2; exact ⟨rfl, rfl⟩) mkStep ?_
      refine rg_read (i := 9) (a1 := _) rfl (by kernel_rfl) rfl (by simp) (by intro wq hwq; go_wp2; exact ⟨rfl, rfl⟩) mkStep ?_
      refine rg_read (i := 10) (a1 := _) rfl (by kernel_rfl) rfl (by simp) (by intro wq hwq; go_wp2; exact ⟨rfl, rfl⟩) mkStep ?_
      refine rg_done (by kernel_rfl) ?_
      go_wp2_with fail
      go_roundw
      case rel => exact ⟨k + 1, n + (m.funcs[k].body.length - (peepBody m.funcs[k].body).length), by omega, by go_num, congrArg (Value.int .i64) (by omega), mkStep, hn3, hnl3⟩
      case measure => simp [intOf]; omega
    · have hz := hid (show (n : Int) = savedOf m by rw [hn.out, List.take_of_length_le (by omega)]; rfl)
      go_wp2
      go_ret
      exact ⟨by rw [hy.out]; exact ret_int hz.out, mkStep⟩
end Go.Proofs.YtnldaicibnkeoaaGreatDoor
