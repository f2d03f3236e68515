/- Contracts: letters, digits, words. -/
import Derived.Test.YtoffaobiikdflaaGreatDoorTabs
import Derived.Test.YtoffaobiikdflaaGreatDoorShelf
namespace Go.Proofs.YtoffaobiikdflaaGreatDoor
attribute [local go_sem ↓] Go.wp_at_zero Go.wp_at_succ
open Go.RowKit
open Rep (Is sz)

def small (c : UInt8) : Bool := decide (97 ≤ (c.toNat : Int) ∧ (c.toNat : Int) ≤ 122)
def dig (c : UInt8) : Bool := decide (48 ≤ (c.toNat : Int) ∧ (c.toNat : Int) ≤ 57)
def part (c : UInt8) : Bool := decide (97 ≤ (c.toNat : Int) ∧ (c.toNat : Int) ≤ 122) || decide (65 ≤ (c.toNat : Int) ∧ (c.toNat : Int) ≤ 90) || decide (48 ≤ (c.toNat : Int) ∧ (c.toNat : Int) ≤ 57) || ((c.toNat : Int) == 95)



/-- Every byte of a text. -/
def allB (p : UInt8 → Bool) (s : ByteArray) : Bool := s.data.toList.all p

theorem byte_at (s : ByteArray) (k : Nat) (hk : k < s.size) : s.data.toList[k]? = some s[k] := at_eq s k hk _ rfl

def wordS (s : ByteArray) : Bool := match s.data.toList with
  | [] => false
  | c :: r => small c && (c :: r).all part

theorem wordS_no {s : ByteArray} {k : Nat} (hk : k < s.size) (h : part s[k] = false) : wordS s = false := by
  have hm : s[k] ∈ s.data.toList := List.mem_of_getElem? (byte_at s k hk)
  unfold wordS
  cases e : s.data.toList with
  | nil => rfl
  | cons c r =>
    rw [e] at hm
    simp only [Bool.and_eq_false_iff]
    right
    rw [Bool.eq_false_iff, ne_eq, List.all_eq_true]
    intro ha
    rw [ha _ hm] at h
    cases h
theorem wordS_all {s : ByteArray} {k : Nat} (h0 : 0 < s.size) (hk : s.size ≤ k) (h : ∀ j : Nat, j < k → ∀ c, s.data.toList[j]? = some c → part c = true) : wordS s = small s[0] := by
  have h1 := byte_at s 0 h0
  unfold wordS
  cases e : s.data.toList with
  | nil => rw [e] at h1; cases h1
  | cons c r =>
    rw [e] at h1
    obtain rfl := Option.some.inj h1
    have ha : (s[0] :: r).all part = true := by
      rw [List.all_eq_true]
      intro x hx
      obtain ⟨j, hj⟩ := List.mem_iff_getElem?.1 hx
      rw [← e] at hj
      have hl := (List.getElem?_eq_some_iff.1 hj).1
      rw [bsz] at hl
      exact h j (by omega) x hj
    simp [ha]
theorem wordS_nil {s : ByteArray} (h : s.size = 0) : wordS s = false := by
  have e : s.data.toList = [] := List.eq_nil_of_length_eq_zero (by rw [bsz]; exact h)
  unfold wordS
  rw [e]

theorem upto_all1 {p : UInt8 → Bool} {s : ByteArray} {k : Nat} (hk : k < s.size) (hp : p s[k] = true) (h : ∀ j : Nat, j < k → ∀ c, s.data.toList[j]? = some c → p c = true) : ∀ j : Nat, j < k + 1 → ∀ c, s.data.toList[j]? = some c → p c = true := by
  intro j hj c hc
  rcases Nat.lt_or_ge j k with h1 | h1
  · exact h j h1 c hc
  · obtain rfl : j = k := by omega
    rw [byte_at s j hk] at hc
    rw [← Option.some.inj hc]
    exact hp


def runTo (p : UInt8 → Bool) : List UInt8 → Nat
  | [] => 0
  | c :: r => if p c then runTo p r + 1 else 0

theorem runTo_yes {p : UInt8 → Bool} {s : ByteArray} {n : Nat} (h : n < s.size) (hp : p s[n] = true) : runTo p (s.data.toList.drop n) = runTo p (s.data.toList.drop (n + 1)) + 1 := by
  have e : s.data.toList.drop n = s[n] :: s.data.toList.drop (n + 1) := by
    rw [List.drop_eq_getElem_cons (by rw [bsz]; exact h)]; rfl
  rw [e, runTo, if_pos hp]
theorem runTo_no {p : UInt8 → Bool} {s : ByteArray} {n : Nat} (h : n < s.size) (hp : p s[n] = false) : runTo p (s.data.toList.drop n) = 0 := by
  have e : s.data.toList.drop n = s[n] :: s.data.toList.drop (n + 1) := by
    rw [List.drop_eq_getElem_cons (by rw [bsz]; exact h)]; rfl
  rw [e, runTo, if_neg (by simp [hp])]
theorem runTo_end {p : UInt8 → Bool} {s : ByteArray} {n : Nat} (h : s.size ≤ n) : runTo p (s.data.toList.drop n) = 0 := by
  rw [List.drop_of_length_le (by rw [bsz]; exact h)]; rfl
theorem runTo_le (p : UInt8 → Bool) : ∀ l : List UInt8, runTo p l ≤ l.length
  | [] => Nat.le_refl _
  | c :: r => by
    have := runTo_le p r
    unfold runTo
    split
    · simp; omega
    · simp
theorem runTo_all (p : UInt8 → Bool) : ∀ l : List UInt8, runTo p l = l.length ↔ l.all p = true
  | [] => by simp [runTo]
  | c :: r => by
    have h1 := runTo_all p r
    unfold runTo
    by_cases hc : p c = true
    · simp [hc, h1]
    · simp [hc]



def wordsL : List ByteArray := [⟨#[105, 110, 116]⟩, ⟨#[118, 97, 114]⟩, ⟨#[102, 117, 110, 99]⟩, ⟨#[105, 102]⟩, ⟨#[101, 108, 115, 101]⟩, ⟨#[119, 104, 105, 108, 101]⟩, ⟨#[114, 101, 116, 117, 114, 110]⟩]
def signsL : List ByteArray := [⟨#[124, 124]⟩, ⟨#[38, 38]⟩, ⟨#[61, 61]⟩, ⟨#[33, 61]⟩, ⟨#[60, 61]⟩, ⟨#[62, 61]⟩, ⟨#[60, 60]⟩, ⟨#[62, 62]⟩, ⟨#[40]⟩, ⟨#[41]⟩, ⟨#[123]⟩, ⟨#[125]⟩, ⟨#[91]⟩, ⟨#[93]⟩, ⟨#[44]⟩, ⟨#[59]⟩, ⟨#[61]⟩, ⟨#[60]⟩, ⟨#[62]⟩, ⟨#[43]⟩, ⟨#[45]⟩, ⟨#[42]⟩, ⟨#[47]⟩, ⟨#[37]⟩, ⟨#[38]⟩, ⟨#[124]⟩, ⟨#[94]⟩, ⟨#[33]⟩, ⟨#[126]⟩]

theorem signs_fields : (Lib.fields ([105, 110, 116, 32, 118, 97, 114, 32, 102, 117, 110, 99, 32, 105, 102, 32, 101, 108, 115, 101, 32, 119, 104, 105, 108, 101, 32, 114, 101, 116, 117, 114, 110, 32, 124, 124, 32, 38, 38, 32, 61, 61, 32, 33, 61, 32, 60, 61, 32, 62, 61, 32, 60, 60, 32, 62, 62, 32, 40, 32, 41, 32, 123, 32, 125, 32, 91, 32, 93, 32, 44, 32, 59, 32, 61, 32, 60, 32, 62, 32, 43, 32, 45, 32, 42, 32, 47, 32, 37, 32, 38, 32, 124, 32, 94, 32, 33, 32, 126] : List UInt8)).map (fun x => (⟨x.toArray⟩ : ByteArray)) = wordsL ++ signsL := by decide +kernel
def signB (s : ByteArray) : Bool := memS (wordsL ++ signsL) s
theorem wordS_eq {s : ByteArray} (h : 0 < s.size) : wordS s = (small s[0] && decide (runTo part s.data.toList = s.size)) := by
  have h1 := byte_at s 0 h
  have h2 := runTo_all part s.data.toList
  rw [bsz] at h2
  have h3 : decide (runTo part s.data.toList = s.size) = s.data.toList.all part := by
    rw [Bool.eq_iff_iff, decide_eq_true_iff]; exact h2
  rw [h3]
  unfold wordS
  cases e : s.data.toList with
  | nil => rw [e] at h1; cases h1
  | cons c r =>
    rw [e] at h1
    rw [Option.some.inj h1]


theorem memS_append (a b : List ByteArray) (s : ByteArray) : memS (a ++ b) s = (memS a s || memS b s) := by simp [memS]
theorem words_word : ∀ s ∈ signsL, wordS s = false := by decide +kernel

end Go.Proofs.YtoffaobiikdflaaGreatDoor
