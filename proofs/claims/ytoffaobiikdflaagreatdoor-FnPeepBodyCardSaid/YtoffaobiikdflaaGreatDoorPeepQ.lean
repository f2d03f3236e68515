/- Contracts: impl's PeepOnce and PeepBody. -/
import Derived.Test.YtoffaobiikdflaaGreatDoorPeepI
import Derived.Test.YtoffaobiikdflaaGreatDoorPeepR
import Derived.Test.YtoffaobiikdflaaGreatDoorReadL
namespace Go.Proofs.YtoffaobiikdflaaGreatDoor
attribute [local go_sem ↓] Go.wp_at_zero Go.wp_at_succ
open Go.RowKit
open Rep (Is sz)

/-- Whether something goes. -/
def peepB (l : List InsD) : Bool := l.all insOk && (onceP l).isSome
theorem peepB_no {l : List InsD} (h : l.all insOk = false) : peepB l = false ∧ peepOnce l = l := by unfold peepB peepOnce; rw [h]; exact ⟨rfl, rfl⟩
theorem peepB_none {l : List InsD} (h : l.all insOk = true) (h1 : onceP l = none) : peepB l = false ∧ peepOnce l = l := by unfold peepB peepOnce; rw [h, h1]; exact ⟨rfl, rfl⟩
theorem peepB_some {l r : List InsD} (h : l.all insOk = true) (h1 : onceP l = some r) : peepB l = true ∧ peepOnce l = r := by unfold peepB peepOnce; rw [h, h1]; exact ⟨rfl, rfl⟩
theorem peepBody_step (l : List InsD) : peepBody l = if peepB l = true then peepBody (peepOnce l) else peepOnce l := by
  cases ho : l.all insOk
  · rw [(peepB_no ho).1, (peepB_no ho).2]; unfold peepBody; rw [ho]; rfl
  · have e0 : peepBody l = bodyP l.length l := by unfold peepBody; rw [ho]; rfl
    cases e : onceP l with
    | none => rw [(peepB_none ho e).1, (peepB_none ho e).2, e0, body_none e]; rfl
    | some x =>
      have hx := onceP_ok l ho e
      have e1 : peepBody x = bodyP x.length x := by unfold peepBody; rw [hx]; rfl
      rw [(peepB_some ho e).1, (peepB_some ho e).2, e0, body_some e, e1]; rfl
theorem peep_less (r : List InsD) : (peepOnce r).length + vbit (.bool (peepB r)) < r.length + 1 := by
  cases ho : r.all insOk
  · rw [(peepB_no ho).1, (peepB_no ho).2]; simp [vbit]
  · cases e : onceP r with
    | none => rw [(peepB_none ho e).1, (peepB_none ho e).2]; simp [vbit]
    | some x => have := onceP_lt r e; rw [(peepB_some ho e).1, (peepB_some ho e).2]; simp [vbit]; omega
theorem peepOnce_len (r : List InsD) : (peepOnce r).length ≤ r.length := by have := peep_less r; omega
theorem bodyP_len : ∀ (f : Nat) (l : List InsD), (bodyP f l).length ≤ l.length
  | 0, _ => Nat.le_refl _
  | f + 1, l => by
    rw [bodyP]
    cases e : onceP l with
    | none => exact Nat.le_refl _
    | some x => exact Nat.le_trans (bodyP_len f x) (Nat.le_of_lt (onceP_lt l e))
theorem peepBody_len (l : List InsD) : (peepBody l).length ≤ l.length := by
  unfold peepBody
  split
  · exact bodyP_len _ _
  · exact Nat.le_refl _
theorem peep_leafB {w w' : World} {l r : List InsD} {b : Bool} {G : List Nat} {a : Option Addr} {n cap : Nat} {e : Ending} (ht : peepB l = b ∧ peepOnce l = r) (hn : n = r.length) (he : e = .returned (.tuple #[.slice a n cap, .bool b])) (hk : Known w' G r [.slice a n cap]) (hw : NewF w G) (st : Step w w') :
    ∃ a cap G, e = .returned (.tuple #[.slice a (peepOnce l).length cap, .bool (peepB l)]) ∧ Known w' G (peepOnce l) [.slice a (peepOnce l).length cap] ∧ NewF w G ∧ Step w w' := by
  obtain ⟨rfl, rfl⟩ := ht
  subst hn
  exact ⟨a, cap, G, he, hk, hw, st⟩

set_option maxHeartbeats 4000000 in
theorem ipeep {F : List Nat} {v : Value} (l : List InsD) (w : World) (hl : l.length ≤ 1048576) [h : Shows w F l [v]] [hZ : HasTz w] :
    Calls Tryz.prog 19 #[v] w fun e w' => ∃ a cap G, e = .returned (.tuple #[.slice a (peepOnce l).length cap, .bool (peepB l)]) ∧ Known w' G (peepOnce l) [.slice a (peepOnce l).length cap] ∧ NewF w G ∧ Step w w' := by
  have kk := h.known
  have kz := hZ.known
  obtain ⟨a, cap, hv, _, hvl, hml, h3⟩ := inss_open h.is
  cases hv
  clear h hZ
  unfold maxLen at hml
  go_enter Tryz.func19, Tryz.ntmps19
  go_wp2_with (at_builtin; refine at_app (.const (.slice none 0 0)) (.tmp 8) rfl ?_; go_must (refine app_own _ rfl _ _ 23 rfl 39 (.agg #[.int .i64 0, .int .i64 0, .int .i64 0]) 3 24 Tryz.inss_tab w.heap.size none 0 0 [] rfl (World.ownsRow_nil ..) a l.length cap (l.flatMap insVs) rfl hvl (insVs_all l) (by omega) (Nat.le_refl _) ?_); intro ao co w1 hown1 f1; have st1 : Step w w1 := ⟨f1⟩; clear f1; have own1 : w1.ownsRow w.heap.size 39 3 (.slice ao l.length co) l.length (l.flatMap insVs) := (by simpa using hown1); clear hown1)
  with_reducible refine Calls.mono (iallok (l := l) ..) ?_
  rintro e w2 ⟨rfl, st2⟩
  have own2 : w2.ownsRow w.heap.size 39 3 (.slice ao l.length co) l.length (l.flatMap insVs) := own_keep own1
  cases ho : l.all insOk
  · go_wp2
    go_ret2
    exact peep_leafB (peepB_no ho) rfl rfl (known_own own2 rfl rfl h3) (own_newf own2 (Nat.le_refl _)) mkStep
  go_wp2
  go_loopw [16] (fun i wr => ∃ k : Nat, k ≤ l.length ∧ i = .int .i64 k ∧ Step w2 wr ∧ Hid (∀ j : Nat, j < k → (tryP (l.drop j)).2 = 0)) (fun i _ => l.length - (intOf i).toNat)
  case atStart => exact ⟨0, by omega, rfl, mkStep, fun j hj => by omega⟩
  case round =>
    obtain ⟨k, hk, rfl, st, heq⟩ := hrel
    by_cases hlt : k < l.length
    · clear hk
      obtain ⟨be, oe, rfl, _⟩ := hvl.cells (by omega)
      have kd : Known w (if l.drop k = [] then [] else blk (some ⟨be, oe + k * 3, none⟩)) (l.drop k) [.slice (some ⟨be, oe + k * 3, none⟩) (l.length - k) (cap - k)] := by
        have h1 := hvl.suf k (by omega)
        have h2 : (l.drop k).length = l.length - k := List.length_drop
        have h4 := inss_shut (w := w) (l := l.drop k) (a := some ⟨be, oe + k * 3, none⟩) (cap := cap - k) (by rw [h2, flat_drop, Nat.mul_comm 3 k]; exact h1) ⟨by omega, by unfold maxLen; omega⟩ (fun i hi => h3 i (List.mem_of_mem_drop hi))
        rw [h2] at h4
        exact ⟨h4⟩
      have hld : (l.drop k).length ≤ 1048576 := by rw [List.length_drop]; omega
      have hnc : ¬ k = cap := by omega
      obtain ⟨n, hnq⟩ : ∃ n, (tryP (l.drop k)).2 = n := ⟨_, rfl⟩
      by_cases hn : n = 0
      · have hnx : Hid (∀ j : Nat, j < k + 1 → (tryP (l.drop j)).2 = 0) := hid (fun j hj => by
          rcases Nat.lt_or_ge j k with h1 | h1
          · exact heq.out j h1
          · obtain rfl : j = k := by omega
            exact hnq.trans hn)
        go_wp2_with fail
        with_reducible refine Calls.mono (ishort (l.drop k) _ hld) ?_
        rintro e w3 ⟨u, G, rfl, kt, st3⟩
        go_wp2_with fail
        go_roundw
        case rel => exact ⟨k + 1, by omega, by go_num, mkStep, hnx⟩
        case measure => simp [intOf]; omega
      · have hr1 := onceP_at hlt heq.out (by rw [hnq]; exact hn)
        have hfit := try_fits (l.drop k)
        have hln : k + n ≤ l.length := by have := hfit.1; rw [List.length_drop] at this; omega
        have hp : 0 < n := by omega
        have hx1 : (tryP (l.drop k)).1.length < n := by rw [← hnq]; exact hfit.2.2 (by rw [hnq]; exact hn)
        rw [hnq] at hr1
        replace hr1 := hid hr1
        clear hfit hn
        go_wp2_with fail
        with_reducible refine Calls.mono (ishort (l.drop k) _ hld) ?_
        rintro e w3 ⟨u, G, rfl, kt, st3⟩
        generalize hxq : (tryP (l.drop k)).1 = x at *
        obtain ⟨ax, cx, hu, _, hvx, _, _⟩ := inss_open kt.is
        cases hu
        clear hxq
        obtain ⟨g, rfl, hg1, hg2⟩ := own_addr own2 (by omega)
        go_wp2_with fail
        with_reducible refine Calls.mono (irepl l x k n _ _ rfl hl hln hx1 (own_keep own2) hvx) ?_
        rintro e w4 ⟨rfl, own4, f4⟩
        have nbg : NewB w g := ⟨hg1⟩
        have s4 : StepX [g] w3 w4 := ⟨f4⟩
        have hlen : k + x.length + (l.length - (k + n)) = (l.take k ++ x ++ l.drop (k + n)).length := by simp only [List.length_append, List.length_take, List.length_drop]; omega
        have k4 := known_own own4 rfl hlen (ok_in3s (onceP_ok l ho hr1.out))
        replace hlen := hid hlen
        have n4 := own_newf (W := w) (r := l.take k ++ x ++ l.drop (k + n)) own4 (Nat.le_refl _)
        go_wp2
        go_ret2
        exact peep_leafB (peepB_some ho hr1.out) hlen.out rfl k4 n4 mkStep
    · have hno := onceP_no (fun j hj => heq.out j (by omega))
      have own5 : wr.ownsRow w.heap.size 39 3 (.slice ao l.length co) l.length (l.flatMap insVs) := own_keep own2
      go_wp2
      go_ret2
      exact peep_leafB (peepB_none ho hno) rfl rfl (known_own own5 rfl rfl h3) (own_newf own5 (Nat.le_refl _)) mkStep

theorem iponce {F : List Nat} {v : Value} (l : List InsD) (w : World) (hl : l.length ≤ 1048576) [h : Shows w F l [v]] [hZ : HasTz w] :
    Calls Tryz.prog 7 #[v] w fun e w' => ∃ a cap G, e = .returned (.slice a (peepOnce l).length cap) ∧ Known w' G (peepOnce l) [.slice a (peepOnce l).length cap] ∧ NewF w G ∧ Step w w' := by
  have kk := h.known
  have kz := hZ.known
  clear h hZ
  go_enter Tryz.func7, Tryz.ntmps7
  go_wp2_with fail
  with_reducible refine Calls.mono (ipeep l _ hl) ?_
  rintro e w1 ⟨a, cap, G, rfl, k1, n1, st1⟩
  go_wp2
  go_ret
  exact ⟨a, cap, G, rfl, k1, n1, mkStep⟩

theorem ipbody {F : List Nat} {v : Value} (l : List InsD) (w : World) (hl : l.length ≤ 1048576) [h : Shows w F l [v]] [hZ : HasTz w] :
    Calls Tryz.prog 6 #[v] w fun e w' => ∃ a cap G, e = .returned (.slice a (peepBody l).length cap) ∧ Known w' G (peepBody l) [.slice a (peepBody l).length cap] ∧ NewF w G ∧ Step w w' := by
  have kk := h.known
  have kz := hZ.known
  have hln := peepOnce_len l
  have hb0 := hid (peepBody_step l)
  clear h hZ
  go_enter Tryz.func6, Tryz.ntmps6
  go_wp2_with fail
  with_reducible refine Calls.mono (ipeep l _ hl) ?_
  rintro e w1 ⟨a1, cap1, G1, rfl, k1, n1, st1⟩
  go_wp2
  go_loopw [3, 4] (fun o g wr => ∃ (r : List InsD) (ar : Option Addr) (cr : Nat) (G : List Nat) (b : Bool), o = .slice ar r.length cr ∧ g = .bool b ∧ Known wr G r [.slice ar r.length cr] ∧ NewF w G ∧ r.length ≤ l.length ∧ Step w wr ∧ Hid (peepBody l = if b = true then peepBody r else r)) (fun o g _ => vlen o + vbit g)
  case atStart => exact ⟨peepOnce l, a1, cap1, G1, peepB l, rfl, rfl, k1, n1, hln, mkStep, hb0⟩
  case round =>
    obtain ⟨r, ar, cr, G, b, rfl, rfl, kr, nr, hlr, st, hb⟩ := hrel
    cases b
    · have hq := hid (show peepBody l = r from hb.out)
      go_wp2
      go_ret
      exact peep_leaf hq.out rfl kr nr mkStep
    · have hq := hid ((show peepBody l = peepBody r from hb.out).trans (peepBody_step r))
      have hms := peep_less r
      have hl2 := peepOnce_len r
      go_wp2_with fail
      with_reducible refine Calls.mono (ipeep r _ (by omega)) ?_
      rintro e w5 ⟨a5, c5, G5, rfl, k5, n5, st5⟩
      go_wp2_with fail
      go_roundw
      case rel => exact ⟨_, a5, c5, G5, _, rfl, rfl, k5, ⟨n5.is.mono st.fr.size⟩, by omega, mkStep, hq⟩
      case measure => simpa [vlen, vbit] using hms
end Go.Proofs.YtoffaobiikdflaaGreatDoor
