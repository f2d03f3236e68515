/- Contracts: the spec's ReadBody. -/
import Derived.Test.YtgclghhilbnmcaaDoorReadB
namespace Go.Proofs.YtgclghhilbnmcaaDoor
attribute [local go_sem ↓] Go.wp_at_zero Go.wp_at_succ
open Go.RowKit
open Rep (Is sz)

def rdRes (b : List UInt8) : List InsD × Bool := match rdGo b 0 [] with
  | some l => (l, true)
  | none => ([], false)
theorem rdRes_no {b : List UInt8} (h : rdGo b 0 [] = none) : rdRes b = ([], false) := by unfold rdRes; rw [h]
theorem rdRes_yes {b : List UInt8} {l : List InsD} (h : rdGo b 0 [] = some l) : rdRes b = (l, true) := by unfold rdRes; rw [h]

theorem new_blk {w : World} {B : Nat} {e : TypeId} {sz n cap : Nat} {a : Option Addr} {xs : List Value} (h : w.ownsRow B e sz (.slice a n cap) n xs) : New B (blk a) :=
  ⟨by cases a <;> simp [blk], fun x hx => (ownsRow_blk h x hx).1⟩

set_option maxHeartbeats 2000000 in
theorem sreadbody {F : List Nat} {v : Value} (b : List UInt8) (w : World) (hl : b.length ≤ 1048576) [h : Shows w F b [v]] :
    Calls Tryd.prog 7 #[v] w fun e w' => ∃ (ao : Option Addr) (cap : Nat) (l : List InsD) (ok : Bool) (FF : List Nat), e = .returned (.tuple #[.slice ao l.length cap, .bool ok]) ∧ Hid (rdRes b = (l, ok)) ∧ Known w' FF l [.slice ao l.length cap] ∧ NewF w FF ∧ Step w w' := by
  have kk := h.known
  have hA : Apart F [w.heap.size] := ⟨fun x hx e => by
    have := Rep.lt h.is x hx
    simp at e
    omega⟩
  obtain ⟨ad, vc, hv, hF, hvw, hml⟩ := bytes_open h.is
  clear h
  have hvv := hv
  cases hv
  go_enter Tryd.func7, Tryd.ntmps7
  go_wp2
  go_loopw [5] (fun o wr => ∃ (a : Nat) (bad : Bool) (ao : Option Addr) (cap : Nat) (out : List InsD), a ≤ b.length ∧ BoxL wr w.heap.size #[.slice ad b.length vc, .int .i64 (a : Int), .bool bad] ∧ o = .slice ao out.length cap ∧ out.length ≤ 1500 ∧ Step w wr ∧ wr.ownsRow w.heap.size 62 3 (.slice ao out.length cap) out.length (out.flatMap insVs) ∧ Hid (w.heap.size ∉ blk ao) ∧ Hid (∀ i ∈ out, In3 i) ∧ Hid (RdAt b a bad out)) (fun _ wr => rdLeft b.length w.heap.size wr)
  case atStart => exact ⟨0, false, _, _, [], by omega, ⟨(Box.new w _ _).alloc _⟩, rfl, by simp, mkStep, own_litAt (by rw [World.size_alloc]) rfl (by rw [World.size_alloc]; omega) (by decide) rfl, hid (by simp [blk]), hid (by simp), hid ⟨nofun, fun _ => rfl⟩⟩
  case round =>
    obtain ⟨a, bad, ao, cap, out, ha, bx, rfl, hol, st, hown, hap, hin, hrd⟩ := hrel
    cases bad
    · by_cases hlt : a < b.length
      · go_wp2_with fail
        with_reducible refine Calls.mono (sreadins _ _ _ _ (by omega) (by omega)) ?_
        rintro e w2 ⟨i, a', bad', rfl, i0, i1, i2, ha', hout, bx2, st2⟩
        have ki : Known w [] i [.int .i64 i.op, .int .i64 i.a, .int .i64 i.b] := ⟨ins_shut i0 i1 i2⟩
        cases q : insOk i
        · have hn := hid (hrd.out.stop hout hlt (.inl q))
          go_wp2_with (first | (go_at_call 27; (with_reducible refine Calls.mono (sinsok ..) ?_); rintro e wk ⟨rfl, st⟩))
          go_ret2
          exact ⟨none, 0, [], false, [], rfl, hid (rdRes_no hn.out), ⟨inss_shut (a := none) (cap := 0) (View.nil _ _ _) (by simp [maxLen]) (by simp)⟩, ⟨by simp [New]⟩, mkStep⟩
        · by_cases hf : out.length = 1500
          · have hn := hid (hrd.out.stop hout hlt (.inr hf))
            have f1 : ((out.length : Int) == 1500) = true := by rw [hf]; rfl
            clear hf
            go_wp2_with (first | (go_at_call 27; (with_reducible refine Calls.mono (sinsok ..) ?_); rintro e wk ⟨rfl, st⟩))
            go_ret2
            exact ⟨none, 0, [], false, [], rfl, hid (rdRes_no hn.out), ⟨inss_shut (a := none) (cap := 0) (View.nil _ _ _) (by simp [maxLen]) (by simp)⟩, ⟨by simp [New]⟩, mkStep⟩
          · have hq := hid (hrd.out.go hout hlt q hf)
            have f1 : ((out.length : Int) == 1500) = false := beq_eq_false_iff_ne.2 (by omega)
            have f2 : out.length + 1 ≤ 1500 := by omega
            clear hf
            go_wp2_with (first | (go_at_call 27; (with_reducible refine Calls.mono (sinsok _ _) ?_); rintro e wk ⟨rfl, st3⟩; have hown3 : ∀ o, (wk.alloc o).ownsRow w.heap.size 62 3 (.slice ao out.length cap) out.length (out.flatMap insVs) := fun o => ownsRow_fr hown (FrX.fr (S := [w.heap.size]) (a := wr)) (fun x hx e => hap.out (by simp at e; rw [← e]; exact hx))) | (at_builtin; go_must (refine app_rowsX insVs 3 insVs_len insVs_one rfl (.tmp 35) (.tmp 37) 23 rfl 62 (.agg #[.int .i64 0, .int .i64 0, .int .i64 0]) 24 Tryd.inss_tab w ao cap out i rfl (hown3 _) wk.heap.size 1 rfl (fun j u hj => ⟨((Box.new wk _ _).cell_eq j).trans (by simpa [insVs] using hj), (Box.new wk _ _).live j⟩) (by omega) ?_); intro ao1 cap1 w1 hown1 st1 sx1 hb1))
            have nn : NotIn w.heap.size (blk ao) := ⟨hap.out⟩
            have bx3 : BoxL w1 w.heap.size #[.slice ad b.length vc, .int .i64 (a' : Int), .bool bad'] := boxOf
            have hl3 := bx2.old.lt
            have hap1 : Hid (w.heap.size ∉ blk ao1) := hid (fun hx => by
              rcases hb1 _ hx with h | h
              · exact hap.out h
              · have h4 := st3.fr.size
                rw [World.size_alloc] at h h4
                omega)
            have e1 : (out ++ [i]).length = out.length + 1 := by simp
            have hin1 : Hid (∀ x ∈ out ++ [i], In3 x) := hid (fun x hx => by
              rcases List.mem_append.1 hx with h | h
              · exact hin.out x h
              · rw [List.mem_singleton.1 h]; exact ⟨i0, i1, i2⟩)
            go_roundw
            case rel => exact ⟨a', bad', ao1, cap1, out ++ [i], ha', bx3, by rw [e1], by rw [e1]; exact f2, mkStep, by rw [e1]; exact hown1, hap1, hin1, hq⟩
            case measure =>
              rw [rdLeft_on bx]
              cases bad' with
              | true => rw [rdLeft_bad bx3]; omega
              | false => rw [rdLeft_on bx3]; have := hout.lt; omega
      · have hn := hid ((hrd.out.2 rfl).trans (rdGo_end hlt))
        go_wp2
        go_ret2
        exact ⟨ao, cap, out, true, _, rfl, hid (rdRes_yes hn.out), ⟨inss_shut (ownsRow_view hown) (ownsRow_cap hown) hin.out⟩, ⟨by split; exact New.nil _; exact new_blk hown⟩, mkStep⟩
    · have hn := hid (hrd.out.1 rfl)
      by_cases hlt : a < b.length
      all_goals
        go_wp2
        go_ret2
        exact ⟨none, 0, [], false, [], rfl, hid (rdRes_no hn.out), ⟨inss_shut (a := none) (cap := 0) (View.nil _ _ _) (by simp [maxLen]) (by simp)⟩, ⟨by simp [New]⟩, mkStep⟩
end Go.Proofs.YtgclghhilbnmcaaDoor
