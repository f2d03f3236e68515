/- Contracts: Unlex, both sides. -/
import Derived.Test.YtbijeibcchbcpaaDoorTokText
import Derived.Test.YtbijeibcchbcpaaDoorJoin
namespace Go.Proofs.YtbijeibcchbcpaaDoor
attribute [local go_sem ↓] Go.wp_at_zero Go.wp_at_succ
open Go.RowKit
open Rep (Is sz)

theorem tokText_len (t : TokD) : (tokText t).size ≤ t.s.size + 11 := by
  have := numL_len11 t.n
  unfold tokText
  split
  · show (numL t.n).toArray.size ≤ _
    simp; omega
  · split
    · split
      · omega
      · exact Nat.zero_le _
    · split
      · split
        · omega
        · exact Nat.zero_le _
      · exact Nat.zero_le _

def toksL (l : List TokD) (k : Nat) : List (List UInt8) := (l.take k).map fun t => (tokText t).data.toList
def unlexK (l : List TokD) (k : Nat) : List UInt8 := Lib.join (toksL l k) [32]
def unlexL (l : List TokD) : ByteArray := ⟨(unlexK l l.length).toArray⟩

theorem toksL_succ (l : List TokD) (k : Nat) (h : k < l.length) : toksL l (k + 1) = toksL l k ++ [(tokText l[k]).data.toList] := by
  unfold toksL
  rw [List.take_succ_eq_append_getElem h, List.map_append]; rfl
theorem toksL_nil (l : List TokD) (k : Nat) (h : k ≤ l.length) : toksL l k = [] ↔ k = 0 := by
  rw [← List.length_eq_zero_iff]
  unfold toksL
  rw [List.length_map, List.length_take]
  omega
theorem unlexK_zero (l : List TokD) : unlexK l 0 = [] := rfl
theorem unlexK_first (l : List TokD) (k : Nat) (h : k < l.length) (hk : k = 0) : unlexK l (k + 1) = unlexK l k ++ (tokText l[k]).data.toList := by
  subst hk
  have e : unlexK l 0 = [] := rfl
  rw [e]
  unfold unlexK
  rw [toksL_succ l 0 h, join_snoc, if_pos ((toksL_nil l 0 (by omega)).2 rfl), List.nil_append]
theorem unlexK_succ (l : List TokD) (k : Nat) (h : k < l.length) (hk : 0 < k) : unlexK l (k + 1) = unlexK l k ++ [32] ++ (tokText l[k]).data.toList := by
  unfold unlexK
  rw [toksL_succ l k h, join_snoc, if_neg (by rw [toksL_nil l k (by omega)]; omega)]
theorem unlexK_len (l : List TokD) : ∀ k : Nat, k ≤ l.length → (unlexK l k).length ≤ ((l.take k).map tokCost).sum + k * 12
  | 0, _ => by simp [unlexK_zero]
  | k + 1, h => by
    have h1 := unlexK_len l k (by omega)
    have h2 := tokText_len l[k]
    have h3 := sum_take tokCost l k (by omega)
    have h4 : tokCost l[k] = l[k].s.size := rfl
    have h5 := bsz (tokText l[k])
    have h6 : (unlexK l (k + 1)).length ≤ (unlexK l k).length + 1 + (tokText l[k]).data.toList.length := by
      rcases Nat.eq_zero_or_pos k with e | e
      · rw [unlexK_first l k (by omega) e, List.length_append]; omega
      · rw [unlexK_succ l k (by omega) e]
        simp only [List.length_append, List.length_cons, List.length_nil]
        omega
    omega


theorem iunlex {F : List Nat} {v : Value} (l : List TokD) (w : World) (hs : toksCost l ≤ 1048576) [h : Shows w F l [v]] [ha : HasAsc w] [hp : HasPow w] : Calls Tryd.prog 7 #[v] w fun e w' => e = .returned (.string (unlexL l)) ∧ Step w w' := by
  obtain ⟨a, cap, cl, FF, hv, _, hvw, hr, hml⟩ := list_open h.is
  cases hv
  unfold maxLen at hml
  clear h
  have ka := ha.known
  have kp := hp.known
  have hs1 : l.length ≤ 1048576 := by unfold toksCost at hs; omega
  have hs2 : ∀ k (hk : k < l.length), tokCost l[k] ≤ 1048576 := fun k hk => cost_at _ hs hk
  have hs3 : (unlexK l l.length).length ≤ 20000000 := by
    have h1 := unlexK_len l l.length (Nat.le_refl _)
    have h2 := sum_take_le tokCost l l.length
    unfold toksCost at hs
    omega
  replace hs2 := hid hs2
  clear hs
  go_enter Tryd.func7, Tryd.ntmps7
  go_wp2
  go_loopw [3, 8] (fun o i wr => ∃ (k : Nat) (ao : Option Addr) (cap : Nat) (out : List ByteArray), k ≤ l.length ∧ i = .int .i64 k ∧ o = .slice ao out.length cap ∧ Step w wr ∧ wr.ownsRow w.heap.size 9 1 (.slice ao out.length cap) out.length (strVs out) ∧ Hid (out = (l.take k).map tokText)) (fun _ i _ => l.length - (intOf i).toNat)
  case atStart => exact ⟨0, none, 0, [], by omega, rfl, rfl, mkStep, World.ownsRow_nil _ _ _ _, hid rfl⟩
  case round =>
    obtain ⟨k, ao, cap, out, hk, rfl, rfl, st, hown, heq⟩ := hrel
    have hol : out.length ≤ k := by rw [heq.out]; simp; omega
    by_cases hlt : k < l.length
    · have z2 := hs2.out k hlt
      have z3 : l[k].s.size ≤ 1048576 := z2
      have z4 := tokText_len l[k]
      obtain ⟨b, o, G, cs, rfl, hG, hI, hc, ho⟩ := hvw.row hr rfl (by decide) k hlt
      have hI0 := hI
      obtain ⟨rfl, rfl, i0, i1, i2, i3⟩ := tok_open hI0
      have ke : Known w _ l[k] _ := ⟨hI⟩
      have c0 := (hc 0 _ rfl).1
      replace c0 : w.cell? ⟨b, o + k * 4, none⟩ = _ := c0
      have c1 := (hc 1 _ rfl).1
      replace c1 : w.cell? ⟨b, o + k * 4 + 1, none⟩ = _ := c1
      have c2 := (hc 2 _ rfl).1
      replace c2 : w.cell? ⟨b, o + k * 4 + 2, none⟩ = _ := c2
      have c3 := (hc 3 _ rfl).1
      replace c3 : w.cell? ⟨b, o + k * 4 + 3, none⟩ = _ := c3
      clear hc
      have e1 : (out ++ [tokText l[k]]).length = out.length + 1 := by simp
      have hq := hid (show out ++ [tokText l[k]] = (l.take (k + 1)).map tokText by rw [heq.out, List.take_succ_eq_append_getElem hlt, List.map_append]; rfl)
      go_wp2_with (first | (go_at_call 8; (with_reducible refine Calls.mono (itoktext _ _ (by assumption)) ?_); rintro e wk ⟨rfl, st2⟩) | (at_builtin; go_must (refine app_one Value.string (fun _ => rfl) wr rfl (.tmp 12) (.tmp 15) 40 rfl 9 (.string ByteArray.empty) 16 Tryd.strs_tab w ao cap out (tokText l[k]) rfl hown wk.heap.size 1 rfl (by go_simp) (by go_simp) (by omega) ?_); intro ao1 cap1 w1 hown1 st1))
      go_roundw
      case rel => exact ⟨k + 1, ao1, cap1, out ++ [tokText l[k]], by omega, by go_num, by rw [e1], mkStep, by rw [e1]; exact hown1, hq⟩
      case measure => simp [intOf]; omega
    · obtain rfl : k = l.length := by omega
      have hq := heq.out
      rw [List.take_length] at hq
      have hok : ∀ s ∈ out, OkS s := by
        intro s hs
        rw [hq] at hs
        obtain ⟨t, ht, rfl⟩ := List.mem_map.1 hs
        obtain ⟨j, hj, rfl⟩ := List.mem_iff_getElem.1 ht
        have := tokText_len l[j]
        have z2 : l[j].s.size ≤ 1048576 := hs2.out j hj
        unfold OkS; omega
      have ko := own_strs hown hok
      have hJ : Lib.join (out.map (·.data.toList)) (ByteArray.mk #[32]).data.toList = unlexK l l.length := by
        unfold unlexK toksL
        rw [List.take_length, hq, List.map_map]; rfl
      have hz : (Lib.join (out.map (·.data.toList)) (ByteArray.mk #[32]).data.toList).length ≤ 140737488355328 := by rw [hJ]; omega
      replace hJ := hid hJ
      replace hq := hid hq
      clear heq
      go_wp2_with fail
      with_reducible refine Calls.mono (ijoin _ _ hz (by omega)) ?_
      rintro e wk ⟨rfl, st2⟩
      go_wp2
      go_ret
      exact ⟨by rw [hJ.out]; rfl, mkStep⟩
end Go.Proofs.YtbijeibcchbcpaaDoor
