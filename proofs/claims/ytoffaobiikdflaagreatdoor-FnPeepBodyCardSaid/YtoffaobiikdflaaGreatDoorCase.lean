/- Contracts: lines, names, CaseOk, both sides. -/
import Derived.Test.YtoffaobiikdflaaGreatDoorGCase
import Derived.Test.YtoffaobiikdflaaGreatDoorLex
import Derived.Test.YtoffaobiikdflaaGreatDoorApp
import Derived.Test.YtoffaobiikdflaaGreatDoorWithin
namespace Go.Proofs.YtoffaobiikdflaaGreatDoor
attribute [local go_sem ↓] Go.wp_at_zero Go.wp_at_succ
open Go.RowKit
open Rep (Is sz)

def cutGo (s : ByteArray) (b : UInt8) : Nat → Nat → Nat → List ByteArray
  | 0, from', _ => [s.extract from' s.size]
  | n + 1, from', k => if s.data.toList[k]? = some b then s.extract from' k :: cutGo s b n (k + 1) (k + 1) else cutGo s b n from' (k + 1)
def cutS (s : ByteArray) (b : UInt8) : List ByteArray := cutGo s b s.size 0 0

theorem cutGo_yes {s : ByteArray} {b : UInt8} {f k : Nat} (hk : k < s.size) (h : s[k] = b) : cutGo s b (s.size - k) f k = s.extract f k :: cutGo s b (s.size - (k + 1)) (k + 1) (k + 1) := by
  rw [show s.size - k = (s.size - (k + 1)) + 1 by omega, cutGo, if_pos (by rw [byte_at s k hk, h])]
theorem cutGo_no {s : ByteArray} {b : UInt8} {f k : Nat} (hk : k < s.size) (h : ¬ s[k] = b) : cutGo s b (s.size - k) f k = cutGo s b (s.size - (k + 1)) f (k + 1) := by
  rw [show s.size - k = (s.size - (k + 1)) + 1 by omega, cutGo, if_neg (by rw [byte_at s k hk]; exact fun e => h (Option.some.inj e))]

theorem cutGo_len (s : ByteArray) (b : UInt8) : ∀ n f k : Nat, 1 ≤ (cutGo s b n f k).length ∧ (1 < (cutGo s b n f k).length ↔ ∃ j, k ≤ j ∧ j < k + n ∧ s.data.toList[j]? = some b)
  | 0, f, k => ⟨by simp [cutGo], by simp [cutGo]; intros; omega⟩
  | n + 1, f, k => by
    unfold cutGo
    by_cases h : s.data.toList[k]? = some b
    · rw [if_pos h]
      have := (cutGo_len s b n (k + 1) (k + 1)).1
      exact ⟨by simp, by simp only [List.length_cons]; exact ⟨fun _ => ⟨k, by omega, by omega, h⟩, fun _ => by omega⟩⟩
    · rw [if_neg h]
      have h1 := cutGo_len s b n f (k + 1)
      refine ⟨h1.1, h1.2.trans ⟨fun ⟨j, a, c, d⟩ => ⟨j, by omega, by omega, d⟩, fun ⟨j, a, c, d⟩ => ⟨j, ?_, by omega, d⟩⟩⟩
      rcases Nat.eq_or_lt_of_le a with e | e
      · subst e; exact absurd d h
      · omega
theorem cutS_len (s : ByteArray) (b : UInt8) : 1 < (cutS s b).length ↔ s.data.toList.contains b = true := by
  unfold cutS
  rw [(cutGo_len s b s.size 0 0).2, List.contains_iff_mem, List.mem_iff_getElem?]
  constructor
  · rintro ⟨j, _, _, h⟩; exact ⟨j, h⟩
  · rintro ⟨j, h⟩
    have := (List.getElem?_eq_some_iff.1 h).1
    rw [bsz] at this
    exact ⟨j, by omega, by omega, h⟩
theorem ext_size (s : ByteArray) (a b : Nat) : (s.extract a b).size ≤ s.size := by
  rw [ByteArray.size_extract]; omega
theorem cutGo_size (s : ByteArray) (b : UInt8) : ∀ n f k : Nat, ∀ x ∈ cutGo s b n f k, x.size ≤ s.size
  | 0, f, k => by intro x hx; simp [cutGo] at hx; subst hx; exact ext_size _ _ _
  | n + 1, f, k => by
    intro x hx
    unfold cutGo at hx
    split at hx
    · rcases List.mem_cons.1 hx with rfl | h
      · exact ext_size _ _ _
      · exact cutGo_size s b n _ _ x h
    · exact cutGo_size s b n _ _ x hx
theorem cut_oks {s : ByteArray} {b : UInt8} {l : List ByteArray} (h : l = cutS s b) (hs : s.size ≤ 1048576 := by omega) : ∀ x ∈ l, OkS x := by
  subst h
  intro x hx
  have := cutGo_size s b _ _ _ x hx
  unfold OkS; omega



def lineB (s : ByteArray) : Bool := decide (s.size ≤ 200) && !(s.data.toList.contains 10)
def linesB (l : List ByteArray) : Bool := l.all lineB && decide (l.length ≤ 60)

theorem lineB_iff (s : ByteArray) : lineB s = true ↔ s.size ≤ 200 ∧ (cutS s 10).length ≤ 1 := by
  unfold lineB
  rw [Bool.and_eq_true, decide_eq_true_iff, Bool.not_eq_true', Bool.eq_false_iff, ne_eq, ← cutS_len, Nat.not_lt]

theorem all_no {α : Type} {p : α → Bool} {l : List α} {k : Nat} (hk : k < l.length) (h : p l[k] = false) : l.all p = false := by
  rw [Bool.eq_false_iff, ne_eq, List.all_eq_true]
  intro ha
  rw [ha _ (List.getElem_mem hk)] at h
  cases h
theorem all_yes {α : Type} {p : α → Bool} {l : List α} {k : Nat} (hk : l.length ≤ k) (h : ∀ j : Nat, j < k → ∀ x, l[j]? = some x → p x = true) : l.all p = true := by
  rw [List.all_eq_true]
  intro x hx
  obtain ⟨j, hj⟩ := List.mem_iff_getElem?.1 hx
  exact h j (by have := (List.getElem?_eq_some_iff.1 hj).1; omega) x hj
theorem all_step {α : Type} {p : α → Bool} {l : List α} {k : Nat} (hk : k < l.length) (hp : p l[k] = true) (h : ∀ j : Nat, j < k → ∀ x, l[j]? = some x → p x = true) : ∀ j : Nat, j < k + 1 → ∀ x, l[j]? = some x → p x = true := by
  intro j hj c hc
  rcases Nat.lt_or_ge j k with h1 | h1
  · exact h j h1 c hc
  · obtain rfl : j = k := by omega
    rw [List.getElem?_eq_getElem hk] at hc
    rw [← Option.some.inj hc]
    exact hp


theorem idx_no (l : List UInt8) (c : UInt8) : Lib.indexByte l c < 0 ↔ l.contains c = false := by
  rw [Bool.eq_false_iff, ne_eq, List.contains_iff_mem, List.mem_iff_getElem?]
  constructor
  · intro h ⟨j, hj⟩
    have := Lib.indexByte_ge l c
    exact Lib.indexByte_none (by omega) j hj
  · intro h
    by_cases h1 : Lib.indexByte l c < 0
    · exact h1
    · obtain ⟨o, ho⟩ := Int.eq_ofNat_of_zero_le (Int.not_lt.1 h1)
      exact absurd ⟨o, (Lib.indexByte_some ho).1⟩ h


def nameB (s : ByteArray) : Bool := wordS s && decide (s.size ≤ 12) && !memS wordsL s
end Go.Proofs.YtoffaobiikdflaaGreatDoor
