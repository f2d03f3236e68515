/- Contracts: numbers with blanks between, both sides. -/
import Derived.Test.YteeabcdibpnciaaDoorJoin
namespace Go.Proofs.YteeabcdibpnciaaDoor
attribute [local go_sem ↓] Go.wp_at_zero Go.wp_at_succ
open Go.RowKit
open Rep (Is sz)

def numsK (l : List Int) (k : Nat) : List UInt8 := Lib.join ((l.take k).map numL) [32]
def numsL (l : List Int) : List UInt8 := numsK l l.length
theorem take_numL_succ (l : List Int) (k : Nat) (h : k < l.length) : (l.take (k + 1)).map numL = (l.take k).map numL ++ [numL l[k]] := by
  rw [List.take_succ_eq_append_getElem h, List.map_append]; rfl
theorem take_numL_nil (l : List Int) (k : Nat) (h : k ≤ l.length) : (l.take k).map numL = [] ↔ k = 0 := by
  rw [← List.length_eq_zero_iff, List.length_map, List.length_take]
  omega
theorem numsK_first (l : List Int) (k : Nat) (h : k < l.length) (hk : k = 0) : numsK l (k + 1) = numsK l k ++ numL l[k] := by
  subst hk
  have e : numsK l 0 = [] := rfl
  rw [e]
  unfold numsK
  rw [take_numL_succ l 0 h, join_snoc, if_pos ((take_numL_nil l 0 (by omega)).2 rfl), List.nil_append]
theorem numsK_succ (l : List Int) (k : Nat) (h : k < l.length) (hk : 0 < k) : numsK l (k + 1) = numsK l k ++ [32] ++ numL l[k] := by
  unfold numsK
  rw [take_numL_succ l k h, join_snoc, if_neg (by rw [take_numL_nil l k (by omega)]; omega)]
theorem numsK_len (l : List Int) : ∀ k : Nat, k ≤ l.length → (numsK l k).length ≤ k * 12
  | 0, _ => by simp [numsK, Lib.join_nil]
  | k + 1, h => by
    have h1 := numsK_len l k (by omega)
    have h2 := numL_len11 l[k]
    rcases Nat.eq_zero_or_pos k with e | e
    · rw [numsK_first l k (by omega) e, List.length_append]; omega
    · rw [numsK_succ l k (by omega) e]
      simp only [List.length_append, List.length_cons, List.length_nil]
      omega

theorem snumsl {F : List Nat} {v : Value} (l : List Int) (w : World) (hs : l.length ≤ 1048576) [h : Shows w F l [v]] : Calls Tryd.prog 29 #[v] w fun e w' => e = .returned (.string ⟨(numsL l).toArray⟩) ∧ Step w w' := by
  obtain ⟨a, cap, hv, _, hvw, hin, hml⟩ := ints_open h.is
  cases hv
  unfold maxLen at hml
  clear h
  have hs3 : ∀ k, k ≤ l.length → (numsK l k).length ≤ 20000000 := by
    intro k hk
    have h1 := numsK_len l k hk
    omega
  replace hs3 := hid hs3
  go_enter Tryd.func29, Tryd.ntmps29
  go_wp2
  go_loopw [3, 8] (fun o i wr => ∃ k : Nat, k ≤ l.length ∧ i = .int .i64 k ∧ o = .string ⟨(numsK l k).toArray⟩ ∧ Step w wr) (fun _ i _ => l.length - (intOf i).toNat)
  case atStart => exact ⟨0, by omega, rfl, rfl, mkStep⟩
  case round =>
    obtain ⟨k, hk, rfl, rfl, st⟩ := hrel
    have z1 := hs3.out k hk
    by_cases hlt : k < l.length
    · have z4 := numL_len11 l[k]
      obtain ⟨b, o, rfl, hc, _, ho⟩ := hvw.get k hlt (.int .i64 l[k]) (by simp [intVs, hlt])
      rcases Nat.eq_zero_or_pos k with e | e
      · have hq := hid (numsK_first l k hlt e)
        have e' : ¬ 0 < k := by omega
        replace e := hid e
        go_wp2_with (first | (go_at_call 64; (with_reducible refine Calls.mono (snum ..) ?_); rintro e wk ⟨rfl, st⟩))
        go_roundw
        case rel => exact ⟨k + 1, by omega, by go_num, by rw [hq.out]; simp [str_app], mkStep⟩
        case measure => simp [intOf]; omega
      · have hq := hid (numsK_succ l k hlt e)
        go_wp2_with (first | (go_at_call 64; (with_reducible refine Calls.mono (snum ..) ?_); rintro e wk ⟨rfl, st⟩))
        go_roundw
        case rel => exact ⟨k + 1, by omega, by go_num, by rw [hq.out]; simp [str_app], mkStep⟩
        case measure => simp [intOf]; omega
    · obtain rfl : k = l.length := by omega
      go_wp2
      go_ret
      exact ⟨rfl, mkStep⟩

theorem inumsl {F : List Nat} {v : Value} (l : List Int) (w : World) (hs : l.length ≤ 1048576) [h : Shows w F l [v]] [hp : HasPow w] : Calls Tryd.prog 33 #[v] w fun e w' => e = .returned (.string ⟨(numsL l).toArray⟩) ∧ Step w w' := by
  obtain ⟨a, cap, hv, _, hvw, hin, hml⟩ := ints_open h.is
  cases hv
  unfold maxLen at hml
  clear h
  have kp := hp.known
  have hs3 : (numsK l l.length).length ≤ 20000000 := by
    have h1 := numsK_len l l.length (Nat.le_refl _)
    omega
  go_enter Tryd.func33, Tryd.ntmps33
  go_wp2
  go_loopw [3, 8] (fun o i wr => ∃ (k : Nat) (ao : Option Addr) (cap : Nat) (out : List ByteArray), k ≤ l.length ∧ i = .int .i64 k ∧ o = .slice ao out.length cap ∧ Step w wr ∧ wr.ownsRow w.heap.size 9 1 (.slice ao out.length cap) out.length (strVs out) ∧ Hid (out = (l.take k).map fun n => ⟨(numL n).toArray⟩)) (fun _ i _ => l.length - (intOf i).toNat)
  case atStart => exact ⟨0, none, 0, [], by omega, rfl, rfl, mkStep, World.ownsRow_nil _ _ _ _, hid rfl⟩
  case round =>
    obtain ⟨k, ao, cap, out, hk, rfl, rfl, st, hown, heq⟩ := hrel
    have hol : out.length ≤ k := by rw [heq.out]; simp; omega
    by_cases hlt : k < l.length
    · have z4 := numL_len11 l[k]
      obtain ⟨b, o, rfl, hc, _, ho⟩ := hvw.get k hlt (.int .i64 l[k]) (by simp [intVs, hlt])
      have e1 : (out ++ [(⟨(numL l[k]).toArray⟩ : ByteArray)]).length = out.length + 1 := by simp
      have hq := hid (show out ++ [(⟨(numL l[k]).toArray⟩ : ByteArray)] = (l.take (k + 1)).map fun n => ⟨(numL n).toArray⟩ by rw [heq.out, List.take_succ_eq_append_getElem hlt, List.map_append]; rfl)
      go_wp2_with (first | (go_at_call 70; (with_reducible refine Calls.mono (inum _ _) ?_); rintro e wk ⟨rfl, st2⟩) | (at_builtin; go_must (refine app_one Value.string (fun _ => rfl) wr rfl (.tmp 12) (.tmp 15) 22 rfl 9 (.string ByteArray.empty) 16 Tryd.strs_tab w ao cap out ⟨(numL l[k]).toArray⟩ rfl hown wk.heap.size 1 rfl (by go_simp) (by go_simp) (by omega) ?_); intro ao1 cap1 w1 hown1 st1))
      go_roundw
      case rel => exact ⟨k + 1, ao1, cap1, out ++ [⟨(numL l[k]).toArray⟩], by omega, by go_num, by rw [e1], mkStep, by rw [e1]; exact hown1, hq⟩
      case measure => simp [intOf]; omega
    · obtain rfl : k = l.length := by omega
      have hq := heq.out
      rw [List.take_length] at hq
      have hok : ∀ s ∈ out, OkS s := by
        intro s hs
        rw [hq] at hs
        obtain ⟨t, ht, rfl⟩ := List.mem_map.1 hs
        have := numL_len11 t
        unfold OkS
        show (numL t).toArray.size ≤ _
        simp; omega
      have ko := own_strs hown hok
      have hJ : Lib.join (out.map (·.data.toList)) (ByteArray.mk #[32]).data.toList = numsL l := by
        unfold numsL numsK
        rw [List.take_length, hq, List.map_map]; rfl
      have hz : (Lib.join (out.map (·.data.toList)) (ByteArray.mk #[32]).data.toList).length ≤ 140737488355328 := by rw [hJ]; unfold numsL; omega
      replace hJ := hid hJ
      replace hq := hid hq
      clear heq
      go_wp2_with fail
      with_reducible refine Calls.mono (ijoin _ _ hz (by omega)) ?_
      rintro e wk ⟨rfl, st2⟩
      go_wp2
      go_ret
      exact ⟨by rw [hJ.out]; rfl, mkStep⟩
end Go.Proofs.YteeabcdibpnciaaDoor
