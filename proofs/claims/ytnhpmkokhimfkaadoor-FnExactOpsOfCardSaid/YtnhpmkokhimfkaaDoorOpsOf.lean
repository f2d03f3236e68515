/- Contracts: OpsOf, both sides. -/
import Derived.Test.YtnhpmkokhimfkaaDoorFormT
namespace Go.Proofs.YtnhpmkokhimfkaaDoor
attribute [local go_sem ↓] Go.wp_at_zero Go.wp_at_succ
open Go.RowKit
open Rep (Is sz)

def cntOp (op : Int) (l : List InsD) : Nat := (l.filter fun i => decide (i.op = op)).length
def opsOf (m : ModuleD) (op : Int) : Nat := (m.funcs.map fun f => cntOp op f.body).sum
noncomputable def opsRes (m : ModuleD) (op : Int) : Int := if pB (FormP m) = true then (opsOf m op : Int) else -1
theorem opsRes_no {m : ModuleD} {op : Int} (q : pB (FormP m) = false) : opsRes m op = -1 := by unfold opsRes; rw [q]; rfl
theorem opsRes_yes {m : ModuleD} {op : Int} (q : pB (FormP m) = true) : opsRes m op = opsOf m op := if_pos q
theorem cntOp_yes {op : Int} {l : List InsD} {k : Nat} (h : k < l.length) (he : l[k].op = op) : cntOp op (l.take (k + 1)) = cntOp op (l.take k) + 1 := by
  unfold cntOp
  rw [List.take_succ_eq_append_getElem h, List.filter_append, List.length_append]
  simp [he]
theorem cntOp_no {op : Int} {l : List InsD} {k : Nat} (h : k < l.length) (he : ¬ l[k].op = op) : cntOp op (l.take (k + 1)) = cntOp op (l.take k) := by
  unfold cntOp
  rw [List.take_succ_eq_append_getElem h, List.filter_append, List.length_append]
  simp [he]
theorem sum_le {α : Type} (f g : α → Nat) (h : ∀ x, f x ≤ g x) : ∀ l : List α, (l.map f).sum ≤ (l.map g).sum
  | [] => by simp
  | x :: l => by simp only [List.map_cons, List.sum_cons]; have := h x; have := sum_le f g h l; omega
theorem bodies_le (m : ModuleD) (hb : moduleCost m ≤ 1048576) : (m.funcs.map fun f => f.body.length).sum ≤ 1048576 := by
  have h1 := sum_le (fun f : FuncD => f.body.length) funcCost (fun f => by unfold funcCost inssCost; omega) m.funcs
  unfold moduleCost funcsCost at hb
  omega
set_option maxHeartbeats 4000000 in
theorem sopsof {F : List Nat} {cs : List Value} (m : ModuleD) (op : Int) (w : World) (hb : moduleCost m ≤ 1048576) [h : Shows w F m cs] : Calls Tryd.prog 7 #[.agg cs.toArray, .int .i64 op] w fun e w' => e = .returned (.int .i64 (opsRes m op)) ∧ Step w w' := by
  obtain ⟨a1, k1, a2, k2, a3, k3, a4, k4, a5, k5, a6, k6, F1, F2, F3, F4, F5, F6, rfl, rfl, h1, h2, h3, h4, h5, h6, i3, i4⟩ := module_open h.is
  have kk := h.known
  clear h
  obtain ⟨_, _, cl3, FF3, hv, _, hvw3, hr3, hml3⟩ := list_open h3
  cases hv
  unfold maxLen at hml3
  have hB := hid (bodies_le m hb)
  have hl3 : m.funcs.length ≤ 1048576 := by unfold moduleCost funcsCost at hb; omega
  go_enter Tryd.func7, Tryd.ntmps7
  go_wp2_with fail
  with_reducible refine Calls.mono (sform _ _ (by assumption)) ?_
  rintro e w2 ⟨rfl, st0⟩
  cases q : pB (FormP m)
  · have hz := hid (opsRes_no (op := op) q)
    go_wp2
    go_ret
    exact ⟨by rw [hz.out]; rfl, mkStep⟩
  have hy := hid (opsRes_yes (op := op) q)
  go_wp2
  refine wp_name ?_
  intro A sA
  go_loopw [5, 16] (fun r i wr => ∃ k n : Nat, k ≤ m.funcs.length ∧ i = .int .i64 k ∧ r = .int .i64 n ∧ Step A wr ∧ Hid (n = ((m.funcs.take k).map fun f => cntOp op f.body).sum) ∧ Hid (n ≤ ((m.funcs.take k).map fun f => f.body.length).sum)) (fun _ i _ => m.funcs.length - (intOf i).toNat)
  case atStart => exact ⟨0, 0, by omega, rfl, rfl, mkStep, hid rfl, hid (by simp)⟩
  case round =>
    obtain ⟨k, n, hk, rfl, rfl, st, hn, hnl⟩ := hrel
    by_cases hlt : k < m.funcs.length
    · clear hk
      have t1 := sum_take (fun f : FuncD => f.body.length) m.funcs k hlt
      have t2 := sum_take_le (fun f : FuncD => f.body.length) m.funcs (k + 1)
      have t3 := sum_take (fun f : FuncD => cntOp op f.body) m.funcs k hlt
      have hB2 := hB.out
      have hnl2 := hnl.out
      have hnb : n + m.funcs[k].body.length ≤ 1048576 := by omega
      have hnl3 := hid (show n + m.funcs[k].body.length ≤ ((m.funcs.take (k + 1)).map fun f => f.body.length).sum by omega)
      have hn3 := hid (show n + cntOp op m.funcs[k].body = ((m.funcs.take (k + 1)).map fun f => cntOp op f.body).sum by rw [t3, hn.out])
      clear t1 t2 t3 hB2 hnl2
      obtain ⟨be, oe, Ge, cse, rfl, hGe, hIe, hce, hoe⟩ := hvw3.row hr3 rfl (by decide) k hlt
      have hI0e := hIe
      obtain ⟨a1e, k1e, F1e, rfl, rfl, h1e, i0e, i1e⟩ := func_open hI0e
      have kee : Known w _ m.funcs[k] _ := ⟨hIe⟩
      have c0e := (hce 0 _ rfl).1
      replace c0e : w.cell? ⟨be, oe + k * 3, none⟩ = _ := c0e
      have c1e := (hce 1 _ rfl).1
      replace c1e : w.cell? ⟨be, oe + k * 3 + 1, none⟩ = _ := c1e
      have c2e := (hce 2 _ rfl).1
      replace c2e : w.cell? ⟨be, oe + k * 3 + 2, none⟩ = _ := c2e
      clear hce
      obtain ⟨_, _, clB, FFB, hv, _, hvwB, hrB, hmlB⟩ := list_open h1e
      cases hv
      unfold maxLen at hmlB
      go_wp2
      refine wp_name ?_
      intro A2 sA2
      go_loopw [5, 23] (fun r i wr => ∃ j c : Nat, j ≤ m.funcs[k].body.length ∧ c ≤ j ∧ i = .int .i64 j ∧ r = .int .i64 ((n : Int) + c) ∧ Step A2 wr ∧ Hid (c = cntOp op (m.funcs[k].body.take j))) (fun _ i _ => m.funcs[k].body.length - (intOf i).toNat)
      case atStart => exact ⟨0, 0, by omega, by omega, rfl, by simp, mkStep, hid rfl⟩
      case round =>
        obtain ⟨j, c, hj, hc, rfl, rfl, st2, hcj⟩ := hrel
        by_cases hjt : j < m.funcs[k].body.length
        · clear hj
          obtain ⟨bb, ob, Gb, csb, rfl, hGb, hIb, hcb, hob⟩ := hvwB.row hrB rfl (by decide) j hjt
          have hI0b := hIb
          obtain ⟨rfl, rfl, i0b, i1b, i2b⟩ := ins_open hI0b
          have keb : Known w _ m.funcs[k].body[j] _ := ⟨hIb⟩
          have c0b := (hcb 0 _ rfl).1
          replace c0b : w.cell? ⟨bb, ob + j * 3, none⟩ = _ := c0b
          have c1b := (hcb 1 _ rfl).1
          replace c1b : w.cell? ⟨bb, ob + j * 3 + 1, none⟩ = _ := c1b
          have c2b := (hcb 2 _ rfl).1
          replace c2b : w.cell? ⟨bb, ob + j * 3 + 2, none⟩ = _ := c2b
          clear hcb
          by_cases he : m.funcs[k].body[j].op = op
          · have e1 : (m.funcs[k].body[j].op == op) = true := beq_iff_eq.2 he
            have hc1 := hid (show c + 1 = cntOp op (m.funcs[k].body.take (j + 1)) by rw [cntOp_yes hjt he, hcj.out])
            replace he := hid he
            go_wp2
            go_roundw
            case rel => exact ⟨j + 1, c + 1, by omega, by omega, by go_num, by go_num, mkStep, hc1⟩
            case measure => simp [intOf]; omega
          · have e1 : (m.funcs[k].body[j].op == op) = false := beq_eq_false_iff_ne.2 he
            have hc1 := hid (show c = cntOp op (m.funcs[k].body.take (j + 1)) by rw [cntOp_no hjt he, hcj.out])
            replace he := hid he
            go_wp2
            go_roundw
            case rel => exact ⟨j + 1, c, by omega, by omega, by go_num, rfl, mkStep, hc1⟩
            case measure => simp [intOf]; omega
        · have hcf : c = cntOp op m.funcs[k].body := by rw [hcj.out, List.take_of_length_le (by omega)]
          have hcl : c ≤ m.funcs[k].body.length := by omega
          have g1 := hid (show n + c = ((m.funcs.take (k + 1)).map fun f => cntOp op f.body).sum by rw [hcf]; exact hn3.out)
          have g2 := hid (show n + c ≤ ((m.funcs.take (k + 1)).map fun f => f.body.length).sum by have := hnl3.out; omega)
          clear hcf
          go_wp2
          go_roundw
          case rel => exact ⟨k + 1, n + c, by omega, by go_num, by go_num, mkStep, g1, g2⟩
          case measure => simp [intOf]; omega
    · have hz := hid (show (n : Int) = opsOf m op by rw [hn.out, List.take_of_length_le (by omega)]; rfl)
      go_wp2
      go_ret
      exact ⟨by rw [hy.out]; exact ret_int hz.out, mkStep⟩
end Go.Proofs.YtnhpmkokhimfkaaDoor
