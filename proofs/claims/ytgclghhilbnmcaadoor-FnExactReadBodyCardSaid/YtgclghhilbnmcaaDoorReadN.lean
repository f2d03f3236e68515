/- Contracts: impl's ReadBody. -/
import Derived.Test.YtgclghhilbnmcaaDoorReadM
namespace Go.Proofs.YtgclghhilbnmcaaDoor
attribute [local go_sem ↓] Go.wp_at_zero Go.wp_at_succ
open Go.RowKit
open Rep (Is sz)

set_option maxHeartbeats 2000000 in
theorem ibody {F : List Nat} {b : List UInt8} {v : Value} (g : Nat) (w : World) (hl : b.length ≤ 1048576) [hB : BoxAt w g #[v, .int .i64 0, .bool false]] [h : Shows w F b [v]] [hA : Apart F [g]] (hT : ∀ W, Fr [g] w W → Asc W) :
    Calls Tryd.prog 28 #[.pointer (some ⟨g, 0, none⟩)] w fun e w' => ∃ (ao : Option Addr) (cap : Nat) (out : List InsD) (a' : Nat) (bad' : Bool), e = .returned (.slice ao out.length cap) ∧ w'.ownsRow w.heap.size 62 3 (.slice ao out.length cap) out.length (out.flatMap insVs) ∧ Hid (∀ i ∈ out, In3 i) ∧ Hid (rdL b 0 = if bad' = true then none else some out) ∧ BoxL w' g #[v, .int .i64 (a' : Int), .bool bad'] ∧ StepX [g] w w' := by
  have kk := h.known
  have bl := hB.l
  have og := bl.old
  have ag := bl.arg
  obtain ⟨ad, vc, hv, hF, hvw, hml⟩ := bytes_open h.is
  have hlt0 : ∀ x ∈ F, x < w.heap.size := Rep.lt h.is
  clear hB h
  cases hv
  go_enter Tryd.func28, Tryd.ntmps28
  go_wp2
  go_loopw [3] (fun o wr => ∃ (a : Nat) (bad : Bool) (ao : Option Addr) (cap : Nat) (out : List InsD), a ≤ b.length ∧ BoxL wr g #[.slice ad b.length vc, .int .i64 (a : Int), .bool bad] ∧ o = .slice ao out.length cap ∧ out.length ≤ b.length ∧ StepX [g] w wr ∧ wr.ownsRow w.heap.size 62 3 (.slice ao out.length cap) out.length (out.flatMap insVs) ∧ Hid (∀ i ∈ out, In3 i) ∧ Hid (RdL b a bad out) ∧ Hid (bad = false → out.length ≤ a)) (fun _ wr => rdLeft b.length g wr)
  case atStart => exact ⟨0, false, none, 0, [], by omega, bl, rfl, by simp, mkStepX, ⟨rfl, .inl ⟨rfl, rfl⟩⟩, hid (by simp), hid ⟨nofun, fun _ => by cases rdL b 0 <;> simp⟩, hid (by simp)⟩
  case round =>
    obtain ⟨a, bad, ao, cap, out, ha, bx, rfl, hol, st, hown, hin, hrd, hle⟩ := hrel
    have og2 := bx.old
    have hgl : Hid (g ∉ blk ao) := hid (fun hx => by
      have h1 := (ownsRow_blk hown g hx).1
      have h2 := og.lt
      omega)
    cases bad
    · by_cases hlt : a < b.length
      · have hle1 := hle.out rfl
        go_wp2_with fail
        refine rg_begin0 (n := 17) (by kernel_rfl) rfl fun rg0 => ?_
        refine rg_read (i := 0) (a1 := _) rfl (by kernel_rfl) rfl (by simp) (by intro wq hwq; go_wp2; exact ⟨rfl, rfl⟩) mkStep ?_
        refine rg_read (i := 1) (a1 := _) rfl (by kernel_rfl) rfl (by simp) (by intro wq hwq; go_wp2; exact ⟨rfl, rfl⟩) mkStep ?_
        refine rg_read (i := 2) (a1 := _) rfl (by kernel_rfl) rfl (by simp) (by intro wq hwq; go_wp2; exact ⟨rfl, rfl⟩) mkStep ?_
        refine rg_read (i := 3) (a1 := _) rfl (by kernel_rfl) rfl (by simp) (by intro wq hwq; go_wp2; exact ⟨rfl, rfl⟩) mkStep ?_
        refine rg_read (i := 4) (a1 := _) rfl (by kernel_rfl) rfl (by simp) (by intro wq hwq; go_wp2; exact ⟨rfl, rfl⟩) mkStep ?_
        refine rg_read (i := 5) (a1 := _) rfl (by kernel_rfl) rfl (by simp) (by intro wq hwq; go_wp2; exact ⟨rfl, rfl⟩) mkStep ?_
        refine rg_read (i := 6) (a1 := _) rfl (by kernel_rfl) rfl (by simp) (by intro wq hwq; go_wp2; exact ⟨rfl, rfl⟩) mkStep ?_
        refine rg_read (i := 7) (a1 := _) rfl (by kernel_rfl) rfl (by simp) (by intro wq hwq; go_wp2; exact ⟨rfl, rfl⟩) mkStep ?_
        refine rg_read (i := 8) (a1 := _) rfl (by kernel_rfl) rfl (by simp) (by intro wq hwq; go_wp2; exact ⟨rfl, rfl⟩) mkStep ?_
        refine rg_read (i := 9) (a1 := _) rfl (by kernel_rfl) rfl (by simp) (by intro wq hwq; go_wp2; exact ⟨rfl, rfl⟩) mkStep ?_
        refine rg_read (i := 10) (a1 := _) rfl (by kernel_rfl) rfl (by simp) (by intro wq hwq; go_wp2; exact ⟨rfl, rfl⟩) mkStep ?_
        refine rg_read (i := 11) (a1 := _) rfl (by kernel_rfl) rfl (by simp) (by intro wq hwq; go_wp2; exact ⟨rfl, rfl⟩) mkStep ?_
        refine rg_read (i := 12) (a1 := _) rfl (by kernel_rfl) rfl (by simp) (by intro wq hwq; go_wp2; exact ⟨rfl, rfl⟩) mkStep ?_
        refine rg_read (i := 13) (a1 := _) rfl (by kernel_rfl) rfl (by simp) (by intro wq hwq; go_wp2; exact ⟨rfl, rfl⟩) mkStep ?_
        refine rg_read (i := 14) (a1 := _) rfl (by kernel_rfl) rfl (by simp) (by intro wq hwq; go_wp2; exact ⟨rfl, rfl⟩) mkStep ?_
        refine rg_read (i := 15) (a1 := _) rfl (by kernel_rfl) rfl (by simp) (by intro wq hwq; go_wp2; exact ⟨rfl, rfl⟩) mkStep ?_
        refine rg_read (i := 16) (a1 := _) rfl (by kernel_rfl) rfl (by simp) (by intro wq hwq; go_wp2; exact ⟨rfl, rfl⟩) mkStep ?_
        refine rg_done (by kernel_rfl) ?_
        go_wp2_with fail
        with_reducible refine Calls.mono (ireadins _ _ _ _ (by omega) (by omega) (fun W f => hT W (st.fr.drew.trans f (fun x hx => .inl hx)))) ?_
        rintro e w2 ⟨i, a', bad', rfl, i0, i1, i2, ha', hout, bx2, st2⟩
        have hq := hid (hrd.out.go hout hlt)
        have hown3 : ∀ o, (w2.alloc o).ownsRow w.heap.size 62 3 (.slice ao out.length cap) out.length (out.flatMap insVs) := fun o => ownsRow_fr (ownsRow_fr hown (((Fr.refl [g] wr).drew).trans st2.fr (fun x hx => .inl hx)) (fun x hx e => hgl.out (by rw [← List.mem_singleton.1 e]; exact hx))) ((Fr.refl [] _).alloc o) (by simp)
        go_wp2_with (at_builtin; go_must (refine app_rowsY insVs 3 insVs_len insVs_one rfl (.tmp 21) (.tmp 24) 23 rfl 62 (.agg #[.int .i64 0, .int .i64 0, .int .i64 0]) 24 Tryd.inss_tab w ao cap out i rfl (hown3 _) w2.heap.size 1 rfl (fun j u hj => ⟨((Box.new w2 _ _).cell_eq j).trans (by simpa [insVs] using hj), (Box.new w2 _ _).live j⟩) (by omega) ?_); intro ao1 cap1 w1 hown1 sx1 hb1)
        have nn : NotIn g (blk ao) := ⟨hgl.out⟩
        have bx3 : BoxL w1 g #[.slice ad b.length vc, .int .i64 (a' : Int), .bool bad'] := boxOf
        have e1 : (out ++ [i]).length = out.length + 1 := by simp
        have hin1 : Hid (∀ x ∈ out ++ [i], In3 x) := hid (fun x hx => by
          rcases List.mem_append.1 hx with h | h
          · exact hin.out x h
          · rw [List.mem_singleton.1 h]; exact ⟨i0, i1, i2⟩)
        have sub1 : SubX w (blk ao) [g] := ⟨fun x hx => .inr (ownsRow_blk hown x hx).1⟩
        go_roundw
        case rel => exact ⟨a', bad', ao1, cap1, out ++ [i], ha', bx3, by rw [e1], by rw [e1]; omega, mkStepX, by rw [e1]; exact hown1, hin1, hq, hid (fun hb => by subst hb; have := hout.lt; rw [e1]; omega)⟩
        case measure =>
          rw [rdLeft_on bx]
          cases bad' with
          | true => rw [rdLeft_bad bx3]; omega
          | false => rw [rdLeft_on bx3]; have := hout.lt; omega
      · go_wp2_with fail
        refine rg_begin0 (n := 17) (by kernel_rfl) rfl fun rg0 => ?_
        refine rg_read (i := 0) (a1 := _) rfl (by kernel_rfl) rfl (by simp) (by intro wq hwq; go_wp2; exact ⟨rfl, rfl⟩) mkStep ?_
        refine rg_read (i := 1) (a1 := _) rfl (by kernel_rfl) rfl (by simp) (by intro wq hwq; go_wp2; exact ⟨rfl, rfl⟩) mkStep ?_
        refine rg_read (i := 2) (a1 := _) rfl (by kernel_rfl) rfl (by simp) (by intro wq hwq; go_wp2; exact ⟨rfl, rfl⟩) mkStep ?_
        refine rg_read (i := 3) (a1 := _) rfl (by kernel_rfl) rfl (by simp) (by intro wq hwq; go_wp2; exact ⟨rfl, rfl⟩) mkStep ?_
        refine rg_read (i := 4) (a1 := _) rfl (by kernel_rfl) rfl (by simp) (by intro wq hwq; go_wp2; exact ⟨rfl, rfl⟩) mkStep ?_
        refine rg_read (i := 5) (a1 := _) rfl (by kernel_rfl) rfl (by simp) (by intro wq hwq; go_wp2; exact ⟨rfl, rfl⟩) mkStep ?_
        refine rg_read (i := 6) (a1 := _) rfl (by kernel_rfl) rfl (by simp) (by intro wq hwq; go_wp2; exact ⟨rfl, rfl⟩) mkStep ?_
        refine rg_read (i := 7) (a1 := _) rfl (by kernel_rfl) rfl (by simp) (by intro wq hwq; go_wp2; exact ⟨rfl, rfl⟩) mkStep ?_
        refine rg_read (i := 8) (a1 := _) rfl (by kernel_rfl) rfl (by simp) (by intro wq hwq; go_wp2; exact ⟨rfl, rfl⟩) mkStep ?_
        refine rg_read (i := 9) (a1 := _) rfl (by kernel_rfl) rfl (by simp) (by intro wq hwq; go_wp2; exact ⟨rfl, rfl⟩) mkStep ?_
        refine rg_read (i := 10) (a1 := _) rfl (by kernel_rfl) rfl (by simp) (by intro wq hwq; go_wp2; exact ⟨rfl, rfl⟩) mkStep ?_
        refine rg_read (i := 11) (a1 := _) rfl (by kernel_rfl) rfl (by simp) (by intro wq hwq; go_wp2; exact ⟨rfl, rfl⟩) mkStep ?_
        refine rg_read (i := 12) (a1 := _) rfl (by kernel_rfl) rfl (by simp) (by intro wq hwq; go_wp2; exact ⟨rfl, rfl⟩) mkStep ?_
        refine rg_read (i := 13) (a1 := _) rfl (by kernel_rfl) rfl (by simp) (by intro wq hwq; go_wp2; exact ⟨rfl, rfl⟩) mkStep ?_
        refine rg_read (i := 14) (a1 := _) rfl (by kernel_rfl) rfl (by simp) (by intro wq hwq; go_wp2; exact ⟨rfl, rfl⟩) mkStep ?_
        refine rg_read (i := 15) (a1 := _) rfl (by kernel_rfl) rfl (by simp) (by intro wq hwq; go_wp2; exact ⟨rfl, rfl⟩) mkStep ?_
        refine rg_read (i := 16) (a1 := _) rfl (by kernel_rfl) rfl (by simp) (by intro wq hwq; go_wp2; exact ⟨rfl, rfl⟩) mkStep ?_
        refine rg_done (by kernel_rfl) ?_
        go_wp2
        go_ret
        exact ⟨ao, cap, out, a, false, rfl, hown, hin, hid (hrd.out.fin (fun _ => hlt)), boxOf, mkStepX⟩
    · by_cases hlt : a < b.length
      all_goals
        go_wp2_with fail
        refine rg_begin0 (n := 17) (by kernel_rfl) rfl fun rg0 => ?_
        refine rg_read (i := 0) (a1 := _) rfl (by kernel_rfl) rfl (by simp) (by intro wq hwq; go_wp2; exact ⟨rfl, rfl⟩) mkStep ?_
        refine rg_read (i := 1) (a1 := _) rfl (by kernel_rfl) rfl (by simp) (by intro wq hwq; go_wp2; exact ⟨rfl, rfl⟩) mkStep ?_
        refine rg_read (i := 2) (a1 := _) rfl (by kernel_rfl) rfl (by simp) (by intro wq hwq; go_wp2; exact ⟨rfl, rfl⟩) mkStep ?_
        refine rg_read (i := 3) (a1 := _) rfl (by kernel_rfl) rfl (by simp) (by intro wq hwq; go_wp2; exact ⟨rfl, rfl⟩) mkStep ?_
        refine rg_read (i := 4) (a1 := _) rfl (by kernel_rfl) rfl (by simp) (by intro wq hwq; go_wp2; exact ⟨rfl, rfl⟩) mkStep ?_
        refine rg_read (i := 5) (a1 := _) rfl (by kernel_rfl) rfl (by simp) (by intro wq hwq; go_wp2; exact ⟨rfl, rfl⟩) mkStep ?_
        refine rg_read (i := 6) (a1 := _) rfl (by kernel_rfl) rfl (by simp) (by intro wq hwq; go_wp2; exact ⟨rfl, rfl⟩) mkStep ?_
        refine rg_read (i := 7) (a1 := _) rfl (by kernel_rfl) rfl (by simp) (by intro wq hwq; go_wp2; exact ⟨rfl, rfl⟩) mkStep ?_
        refine rg_read (i := 8) (a1 := _) rfl (by kernel_rfl) rfl (by simp) (by intro wq hwq; go_wp2; exact ⟨rfl, rfl⟩) mkStep ?_
        refine rg_read (i := 9) (a1 := _) rfl (by kernel_rfl) rfl (by simp) (by intro wq hwq; go_wp2; exact ⟨rfl, rfl⟩) mkStep ?_
        refine rg_read (i := 10) (a1 := _) rfl (by kernel_rfl) rfl (by simp) (by intro wq hwq; go_wp2; exact ⟨rfl, rfl⟩) mkStep ?_
        refine rg_read (i := 11) (a1 := _) rfl (by kernel_rfl) rfl (by simp) (by intro wq hwq; go_wp2; exact ⟨rfl, rfl⟩) mkStep ?_
        refine rg_read (i := 12) (a1 := _) rfl (by kernel_rfl) rfl (by simp) (by intro wq hwq; go_wp2; exact ⟨rfl, rfl⟩) mkStep ?_
        refine rg_read (i := 13) (a1 := _) rfl (by kernel_rfl) rfl (by simp) (by intro wq hwq; go_wp2; exact ⟨rfl, rfl⟩) mkStep ?_
        refine rg_read (i := 14) (a1 := _) rfl (by kernel_rfl) rfl (by simp) (by intro wq hwq; go_wp2; exact ⟨rfl, rfl⟩) mkStep ?_
        refine rg_read (i := 15) (a1 := _) rfl (by kernel_rfl) rfl (by simp) (by intro wq hwq; go_wp2; exact ⟨rfl, rfl⟩) mkStep ?_
        refine rg_read (i := 16) (a1 := _) rfl (by kernel_rfl) rfl (by simp) (by intro wq hwq; go_wp2; exact ⟨rfl, rfl⟩) mkStep ?_
        refine rg_done (by kernel_rfl) ?_
        go_wp2
        go_ret
        exact ⟨ao, cap, out, a, true, rfl, hown, hin, hid (hrd.out.fin nofun), boxOf, mkStepX⟩
set_option maxHeartbeats 2000000 in
theorem ireadbody {F : List Nat} {v : Value} (b : List UInt8) (w : World) (hl : b.length ≤ 1048576) [h : Shows w F b [v]] (hT : ∀ W, Fr [] w W → Asc W) :
    Calls Tryd.prog 9 #[v] w fun e w' => ∃ (ao : Option Addr) (cap : Nat) (l : List InsD) (ok : Bool) (FF : List Nat), e = .returned (.tuple #[.slice ao l.length cap, .bool ok]) ∧ Hid (rdRes b = (l, ok)) ∧ Known w' FF l [.slice ao l.length cap] ∧ NewF w FF ∧ Step w w' := by
  have kk := h.known
  have hA : Apart F [w.heap.size] := ⟨fun x hx e => by
    have := Rep.lt h.is x hx
    simp at e
    omega⟩
  have hno : rdRes b = match rdL b 0 with | none => ([], false) | some l => if l.length ≤ 1500 ∧ l.all insOk = true then (l, true) else ([], false) := rdRes_eq b
  obtain ⟨ad, vc, hv, hF, hvw, hml⟩ := bytes_open h.is
  have hvv := hv
  cases hv
  clear h
  replace hno := hid hno
  go_enter Tryd.func9, Tryd.ntmps9
  have bA : ∀ t, BoxL (w.alloc (Obj.cells #[Value.slice ad b.length vc, Value.int IntKind.i64 0, Value.bool false] t)) w.heap.size #[Value.slice ad b.length vc, Value.int IntKind.i64 0, Value.bool false] := fun t => ⟨Box.new _ _ t⟩
  have hT0 : ∀ o W, Fr [w.heap.size] (w.alloc o) W → Asc W := fun o W f => hT W (((Fr.refl [] w).alloc o).trans f (by simp))
  go_wp2_with fail
  with_reducible refine Calls.mono (ibody _ _ (by omega) (hT0 _)) ?_
  rintro e w2 ⟨ao, cap, out, a', bad', rfl, hown, hin, hres, bx, st⟩
  have ki : Known w2 _ out [.slice ao out.length cap] := ⟨inss_shut (ownsRow_view hown) (ownsRow_cap hown) hin.out⟩
  have hcap := (ownsRow_cap hown)
  unfold maxLen at hcap
  have hasc : HasAsc w2 := ⟨hT0 _ _ st.fr⟩
  cases bad'
  · by_cases hf : out.length ≤ 1500
    · have f1 : ¬ (out.length : Int) > 1500 := by omega
      cases q : out.all insOk
      · have hn := hid (show rdRes b = ([], false) by rw [hno.out, hres.out]; simp [q])
        go_wp2_with (first | (go_at_call 29; (with_reducible refine Calls.mono (iallok ..) ?_); rintro e wk ⟨rfl, st⟩))
        go_ret2
        exact ⟨none, 0, [], false, [], rfl, hn, ⟨inss_shut (a := none) (cap := 0) (View.nil _ _ _) (by simp [maxLen]) (by simp)⟩, newf_nil _, mkStep⟩
      · have hn := hid (show rdRes b = (out, true) by rw [hno.out, hres.out]; simp [q, hf])
        go_wp2_with (first | (go_at_call 29; (with_reducible refine Calls.mono (iallok ..) ?_); rintro e wk ⟨rfl, st⟩))
        go_ret2
        exact ⟨ao, cap, out, true, _, rfl, hn, ⟨isOf⟩, ⟨by split; exact New.nil _; exact ⟨(new_blk hown).1, fun x hx => by have := (new_blk hown).2 x hx; simp at this; omega⟩⟩, mkStep⟩
    · have hn := hid (show rdRes b = ([], false) by rw [hno.out, hres.out]; simp [hf])
      have f1 : (out.length : Int) > 1500 := by omega
      go_wp2_with (first | (go_at_call 29; (with_reducible refine Calls.mono (iallok ..) ?_); rintro e wk ⟨rfl, st⟩))
      go_ret2
      exact ⟨none, 0, [], false, [], rfl, hn, ⟨inss_shut (a := none) (cap := 0) (View.nil _ _ _) (by simp [maxLen]) (by simp)⟩, newf_nil _, mkStep⟩
  · have hn := hid (show rdRes b = ([], false) by rw [hno.out, hres.out]; simp)
    go_wp2_with (first | (go_at_call 29; (with_reducible refine Calls.mono (iallok ..) ?_); rintro e wk ⟨rfl, st⟩))
    go_ret2
    exact ⟨none, 0, [], false, [], rfl, hn, ⟨inss_shut (a := none) (cap := 0) (View.nil _ _ _) (by simp [maxLen]) (by simp)⟩, newf_nil _, mkStep⟩
end Go.Proofs.YtgclghhilbnmcaaDoor
