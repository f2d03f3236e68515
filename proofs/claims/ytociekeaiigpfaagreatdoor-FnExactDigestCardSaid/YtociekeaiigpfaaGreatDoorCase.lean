/- Contracts: lines, names, CaseOk, both sides. -/
import Derived.Test.YtociekeaiigpfaaGreatDoorGCase
import Derived.Test.YtociekeaiigpfaaGreatDoorLex
import Derived.Test.YtociekeaiigpfaaGreatDoorApp
import Derived.Test.YtociekeaiigpfaaGreatDoorWithin
namespace Go.Proofs.YtociekeaiigpfaaGreatDoor
attribute [local go_sem ↓] Go.wp_at_zero Go.wp_at_succ
open Go.RowKit
open Rep (Is sz)

def cutGo (s : ByteArray) (b : UInt8) : Nat → Nat → Nat → List ByteArray
  | 0, from', _ => [s.extract from' s.size]
  | n + 1, from', k => if s.data.toList[k]? = some b then s.extract from' k :: cutGo s b n (k + 1) (k + 1) else cutGo s b n from' (k + 1)
def cutS (s : ByteArray) (b : UInt8) : List ByteArray := cutGo s b s.size 0 0

theorem cutGo_yes {s : ByteArray} {b : UInt8} {f k : Nat} (hk : k < s.size) (h : s[k] = b) : cutGo s b (s.size - k) f k = s.extract f k :: cutGo s b (s.size - (k + 1)) (k + 1) (k + 1) := by
  rw [show s.size - k = (s.size - (k + 1)) + 1 by omega, cutGo, if_pos (by rw [byte_at s k hk, h])]
theorem cutGo_no {s : ByteArray} {b : UInt8} {f k : Nat} (hk : k < s.size) (h : ¬ s[k] = b) : cutGo s b (s.size - k) f k = cutGo s b (s.size - (k + 1)) f (k + 1) := by
  rw [show s.size - k = (s.size - (k + 1)) + 1 by omega, cutGo, if_neg (by rw [byte_at s k hk]; exact fun e => h (Option.some.inj e))]

theorem cutGo_len (s : ByteArray) (b : UInt8) : ∀ n f k : Nat, 1 ≤ (cutGo s b n f k).length ∧ (1 < (cutGo s b n f k).length ↔ ∃ j, k ≤ j ∧ j < k + n ∧ s.data.toList[j]? = some b)
  | 0, f, k => ⟨by simp [cutGo], by simp [cutGo]; intros; omega⟩
  | n + 1, f, k => by
    unfold cutGo
    by_cases h : s.data.toList[k]? = some b
    · rw [if_pos h]
      have := (cutGo_len s b n (k + 1) (k + 1)).1
      exact ⟨by simp, by simp only [List.length_cons]; exact ⟨fun _ => ⟨k, by omega, by omega, h⟩, fun _ => by omega⟩⟩
    · rw [if_neg h]
      have h1 := cutGo_len s b n f (k + 1)
      refine ⟨h1.1, h1.2.trans ⟨fun ⟨j, a, c, d⟩ => ⟨j, by omega, by omega, d⟩, fun ⟨j, a, c, d⟩ => ⟨j, ?_, by omega, d⟩⟩⟩
      rcases Nat.eq_or_lt_of_le a with e | e
      · subst e; exact absurd d h
      · omega
theorem cutS_len (s : ByteArray) (b : UInt8) : 1 < (cutS s b).length ↔ s.data.toList.contains b = true := by
  unfold cutS
  rw [(cutGo_len s b s.size 0 0).2, List.contains_iff_mem, List.mem_iff_getElem?]
  constructor
  · rintro ⟨j, _, _, h⟩; exact ⟨j, h⟩
  · rintro ⟨j, h⟩
    have := (List.getElem?_eq_some_iff.1 h).1
    rw [bsz] at this
    exact ⟨j, by omega, by omega, h⟩
theorem ext_size (s : ByteArray) (a b : Nat) : (s.extract a b).size ≤ s.size := by
  rw [ByteArray.size_extract]; omega
theorem cutGo_size (s : ByteArray) (b : UInt8) : ∀ n f k : Nat, ∀ x ∈ cutGo s b n f k, x.size ≤ s.size
  | 0, f, k => by intro x hx; simp [cutGo] at hx; subst hx; exact ext_size _ _ _
  | n + 1, f, k => by
    intro x hx
    unfold cutGo at hx
    split at hx
    · rcases List.mem_cons.1 hx with rfl | h
      · exact ext_size _ _ _
      · exact cutGo_size s b n _ _ x h
    · exact cutGo_size s b n _ _ x hx
theorem cut_oks {s : ByteArray} {b : UInt8} {l : List ByteArray} (h : l = cutS s b) (hs : s.size ≤ 1048576 := by omega) : ∀ x ∈ l, OkS x := by
  subst h
  intro x hx
  have := cutGo_size s b _ _ _ x hx
  unfold OkS; omega

theorem scut (s : ByteArray) (b : UInt8) (w : World) (hs : s.size ≤ 1048576) : Calls Tryz.prog 38 #[.string s, .int .u8 (b.toNat : Int)] w fun e w' => ∃ a c F, e = .returned (.slice a (cutS s b).length c) ∧ Known w' F (cutS s b) [.slice a (cutS s b).length c] ∧ Step w w' := by
  go_enter Tryz.func38, Tryz.ntmps38
  go_wp2
  go_loopw [5, 6, 7] (fun o f i wr => ∃ (k f' : Nat) (out : List ByteArray) (ao : Option Addr) (cap : Nat), k ≤ s.size ∧ f' ≤ k ∧ out.length ≤ k ∧ i = .int .i64 k ∧ f = .int .i64 f' ∧ o = .slice ao out.length cap ∧ wr.ownsRow w.heap.size 9 1 (.slice ao out.length cap) out.length (strVs out) ∧ Step w wr ∧ Hid (out ++ cutGo s b (s.size - k) f' k = cutS s b)) (fun _ _ i _ => s.size - (intOf i).toNat)
  case atStart => exact ⟨0, 0, [], _, _, by omega, by omega, by simp, rfl, rfl, rfl, own_lit _ #[] _ 1 0 _ (Nat.le_refl _) (by decide) rfl, mkStep, hid rfl⟩
  case round =>
    obtain ⟨k, f', out, ao, cap, hk, hfk, hol, rfl, rfl, rfl, hown, st, heq⟩ := hrel
    by_cases hlt : k < s.size
    · by_cases hb : s[k] = b
      · have hy := hid (cutGo_yes (f := f') hlt hb)
        have e1 : ((s[k].toNat : Int) == (b.toNat : Int)) = true := by rw [hb]; simp
        replace hb := hid hb
        go_wp2_with (at_builtin; go_must (refine app_one Value.string (fun _ => rfl) wr rfl (.tmp 20) (.tmp 25) 71 rfl 9 (.string ByteArray.empty) 16 Tryz.strs_tab w ao cap out (s.extract f' k) rfl hown wr.heap.size 1 rfl (by go_simp) (by go_simp) (by omega) ?_); intro ao1 cap1 w1 hown1 st1)
        go_roundw
        case rel => exact ⟨k + 1, k + 1, out ++ [s.extract f' k], ao1, cap1, by omega, by omega, by simp; omega, by go_num, by go_num, by simp, by simpa [strVs] using hown1, mkStep, hid (by rw [← heq.out, hy.out]; simp)⟩
        case measure => simp [intOf]; omega
      · have hy := hid (cutGo_no (f := f') hlt hb)
        have e1 : ((s[k].toNat : Int) == (b.toNat : Int)) = false := by
          rw [beq_eq_false_iff_ne]
          intro e
          exact hb (UInt8.toNat_inj.1 (by omega))
        replace hb := hid hb
        go_wp2
        go_roundw
        case rel => exact ⟨k + 1, f', out, ao, cap, by omega, by omega, by omega, by go_num, rfl, rfl, hown, mkStep, hid (by rw [← heq.out, hy.out])⟩
        case measure => simp [intOf]; omega
    · obtain rfl : k = s.size := by omega
      have hz : cutGo s b 0 f' s.size = [s.extract f' s.size] := rfl
      have hq := heq.out
      rw [Nat.sub_self, hz] at hq
      replace hq := hid hq
      clear hz heq
      go_wp2_with (at_builtin; go_must (refine app_one Value.string (fun _ => rfl) wr rfl (.tmp 29) (.tmp 33) 71 rfl 9 (.string ByteArray.empty) 16 Tryz.strs_tab w ao cap out (s.extract f' s.size) rfl hown wr.heap.size 1 rfl (by go_simp) (by go_simp) (by omega) ?_); intro ao1 cap1 w1 hown1 st1)
      go_ret
      rw [← hq.out]
      have e1 : (out ++ [s.extract f' s.size]).length = out.length + 1 := by simp
      rw [e1]
      exact ⟨ao1, cap1, _, rfl, own_strs1 hown1 (cut_oks hq.out), mkStep⟩

theorem scut_lit (s : ByteArray) (x : Int) (b : UInt8) (w : World) (hb : (b.toNat : Int) = x) (hs : s.size ≤ 1048576) : Calls Tryz.prog 38 #[.string s, .int .u8 x] w fun e w' => ∃ a c F, e = .returned (.slice a (cutS s b).length c) ∧ Known w' F (cutS s b) [.slice a (cutS s b).length c] ∧ Step w w' := by
  subst hb
  exact scut s b w hs
theorem scut10 (s : ByteArray) (w : World) (hs : s.size ≤ 1048576) : Calls Tryz.prog 38 #[.string s, .int .u8 10] w fun e w' => ∃ a c F, e = .returned (.slice a (cutS s 10).length c) ∧ Known w' F (cutS s 10) [.slice a (cutS s 10).length c] ∧ Step w w' := scut_lit s 10 10 w rfl hs

def lineB (s : ByteArray) : Bool := decide (s.size ≤ 200) && !(s.data.toList.contains 10)
def linesB (l : List ByteArray) : Bool := l.all lineB && decide (l.length ≤ 60)

theorem lineB_iff (s : ByteArray) : lineB s = true ↔ s.size ≤ 200 ∧ (cutS s 10).length ≤ 1 := by
  unfold lineB
  rw [Bool.and_eq_true, decide_eq_true_iff, Bool.not_eq_true', Bool.eq_false_iff, ne_eq, ← cutS_len, Nat.not_lt]

theorem all_no {α : Type} {p : α → Bool} {l : List α} {k : Nat} (hk : k < l.length) (h : p l[k] = false) : l.all p = false := by
  rw [Bool.eq_false_iff, ne_eq, List.all_eq_true]
  intro ha
  rw [ha _ (List.getElem_mem hk)] at h
  cases h
theorem all_yes {α : Type} {p : α → Bool} {l : List α} {k : Nat} (hk : l.length ≤ k) (h : ∀ j : Nat, j < k → ∀ x, l[j]? = some x → p x = true) : l.all p = true := by
  rw [List.all_eq_true]
  intro x hx
  obtain ⟨j, hj⟩ := List.mem_iff_getElem?.1 hx
  exact h j (by have := (List.getElem?_eq_some_iff.1 hj).1; omega) x hj
theorem all_step {α : Type} {p : α → Bool} {l : List α} {k : Nat} (hk : k < l.length) (hp : p l[k] = true) (h : ∀ j : Nat, j < k → ∀ x, l[j]? = some x → p x = true) : ∀ j : Nat, j < k + 1 → ∀ x, l[j]? = some x → p x = true := by
  intro j hj c hc
  rcases Nat.lt_or_ge j k with h1 | h1
  · exact h j h1 c hc
  · obtain rfl : j = k := by omega
    rw [List.getElem?_eq_getElem hk] at hc
    rw [← Option.some.inj hc]
    exact hp

theorem slines {F : List Nat} {l : List ByteArray} {v : Value} (w : World) [h : Shows w F l [v]] : Calls Tryz.prog 140 #[v] w fun e w' => e = .returned (.bool (linesB l)) ∧ Step w w' := by
  obtain ⟨a, cap, hv, _, hvw, hml, hok⟩ := strs_open h.is
  cases hv
  clear h
  unfold maxLen at hml
  go_enter Tryz.func140, Tryz.ntmps140
  go_wp2
  go_loopw [7] (fun i wr => ∃ k : Nat, k ≤ l.length ∧ i = .int .i64 k ∧ Step w wr ∧ Hid (∀ j : Nat, j < k → ∀ x, l[j]? = some x → lineB x = true)) (fun i _ => l.length - (intOf i).toNat)
  case atStart => exact ⟨0, by omega, rfl, mkStep, fun j hj => by omega⟩
  case round =>
    obtain ⟨k, hk, rfl, st, heq⟩ := hrel
    by_cases hlt : k < l.length
    · obtain ⟨b, o, rfl, hc, _, ho⟩ := hvw.get k hlt (.string l[k]) (by simp [strVs, hlt])
      have hq := lineB_iff l[k]
      have z : l[k].size ≤ 9223372036854775807 := hok _ (List.getElem_mem hlt)
      by_cases h2 : l[k].size ≤ 200
      · by_cases h3 : (cutS l[k] 10).length ≤ 1
        · have hq' := hq.2 ⟨h2, h3⟩
          replace hq' := hid hq'
          clear hq
          go_wp2_with (first | (go_at_call 38; (with_reducible refine Calls.mono (scut10 _ _ (by omega)) ?_); rintro e wk ⟨av, cv, F, rfl, kn, st⟩))
          go_roundw
          case rel => exact ⟨k + 1, by omega, by go_num, mkStep, all_step hlt hq'.out heq.out⟩
          case measure => simp [intOf]; omega
        · have hq' : lineB l[k] = false := by rw [Bool.eq_false_iff, ne_eq, hq]; omega
          replace hq' := hid hq'
          clear hq
          go_wp2_with (first | (go_at_call 38; (with_reducible refine Calls.mono (scut10 _ _ (by omega)) ?_); rintro e wk ⟨av, cv, F, rfl, kn, st⟩))
          go_ret
          exact ⟨by unfold linesB; rw [all_no hlt hq'.out]; rfl, mkStep⟩
      · have hq' : lineB l[k] = false := by rw [Bool.eq_false_iff, ne_eq, hq]; omega
        replace hq' := hid hq'
        clear hq
        go_wp2_with (first | (go_at_call 38; (with_reducible refine Calls.mono (scut10 _ _ (by omega)) ?_); rintro e wk ⟨av, cv, F, rfl, kn, st⟩))
        go_ret
        exact ⟨by unfold linesB; rw [all_no hlt hq'.out]; rfl, mkStep⟩
    · have hq := hid (all_yes (p := lineB) (by omega) heq.out)
      go_wp2
      go_ret
      exact ⟨ret_bool (by unfold linesB; rw [hq.out]; simp; omega), mkStep⟩

theorem idx_no (l : List UInt8) (c : UInt8) : Lib.indexByte l c < 0 ↔ l.contains c = false := by
  rw [Bool.eq_false_iff, ne_eq, List.contains_iff_mem, List.mem_iff_getElem?]
  constructor
  · intro h ⟨j, hj⟩
    have := Lib.indexByte_ge l c
    exact Lib.indexByte_none (by omega) j hj
  · intro h
    by_cases h1 : Lib.indexByte l c < 0
    · exact h1
    · obtain ⟨o, ho⟩ := Int.eq_ofNat_of_zero_le (Int.not_lt.1 h1)
      exact absurd ⟨o, (Lib.indexByte_some ho).1⟩ h

theorem ilineok (s : ByteArray) (w : World) (hs : s.size ≤ 9223372036854775807) : Calls Tryz.prog 105 #[.string s] w fun e w' => e = .returned (.bool (lineB s)) ∧ Step w w' := by
  obtain ⟨n, hn⟩ : ∃ n, n = Lib.indexByte s.data.toList 10 := ⟨_, rfl⟩
  have hI : Calls Tryz.prog 148 #[.string s, .int .u8 10] w fun e w' => e = .returned (.int .i64 n) ∧ w' = w := by rw [hn]; exact Tryz.strings_IndexByte s 10 w
  have hx := idx_no s.data.toList 10
  rw [← hn] at hx
  have hl : lineB s = (decide (s.size ≤ 200) && decide (n < 0)) := by
    unfold lineB
    congr 1
    rw [Bool.eq_iff_iff, decide_eq_true_iff, hx]; simp
  replace hl := hid hl
  clear hx hn
  go_enter Tryz.func105, Tryz.ntmps105
  by_cases h1 : s.size ≤ 200
  · go_wp2_with fail
    with_reducible refine hI.mono ?_
    rintro e w2 ⟨rfl, rfl⟩
    go_wp2
    go_ret
    exact ⟨ret_bool (by rw [hl.out]; simp [h1]), mkStep⟩
  · go_wp2
    go_ret
    exact ⟨ret_bool (by rw [hl.out]; simp [h1]), mkStep⟩

def nameB (s : ByteArray) : Bool := wordS s && decide (s.size ≤ 12) && !memS wordsL s
theorem snameok (s : ByteArray) (w : World) (hs : s.size ≤ 1048576) : Calls Tryz.prog 139 #[.string s] w fun e w' => e = .returned (.bool (nameB s)) ∧ Step w w' := by
  go_enter Tryz.func139, Tryz.ntmps139
  by_cases h1 : s.size ≤ 12
  all_goals
    cases q1 : wordS s <;> cases q2 : memS wordsL s
    all_goals
      go_wp2_with (first | (go_at_call 174; (with_reducible refine Calls.mono (sword_any _ _ (by omega)) ?_); rintro e wk ⟨rfl, st⟩) | (go_at_call 176; (with_reducible refine Calls.mono (swords_any ..) ?_); rintro e wk ⟨v, F, rfl, kn, st⟩) | (go_at_call 175; (with_reducible refine Calls.mono (shas_any ..) ?_); rintro e wk ⟨rfl, st⟩))
      go_ret
      exact ⟨ret_bool (by simp [nameB, q1, q2, h1]), mkStep⟩
theorem inameok (s : ByteArray) (w : World) (hs : s.size ≤ 1048576) [h : HasAsc w] : Calls Tryz.prog 147 #[.string s] w fun e w' => e = .returned (.bool (nameB s)) ∧ Step w w' := by
  have ka := h.known
  have hq : nameB s = ((wordS s && !signB s) && decide (s.size ≤ 12)) := by
    have := words_word s
    rw [← memS_iff] at this
    unfold signB nameB
    rw [memS_append]
    cases e1 : wordS s <;> cases e2 : memS wordsL s <;> cases e3 : memS signsL s <;> simp_all
  replace hq := hid hq
  go_enter Tryz.func147, Tryz.ntmps147
  by_cases h1 : s.size ≤ 12
  all_goals
    cases q1 : (wordS s && !signB s)
    all_goals
      go_wp2_with (first | (go_at_call 182; (with_reducible refine Calls.mono (iname_any _ _ (by omega)) ?_); rintro e wk ⟨rfl, st⟩))
      go_ret
      exact ⟨ret_bool (by rw [hq.out, q1]; simp [h1] <;> omega), mkStep⟩
end Go.Proofs.YtociekeaiigpfaaGreatDoor
