/- Contracts: letters, digits, words. -/
import Derived.Test.YtbijeibcchbcpaaDoorTabs
import Derived.Test.YtbijeibcchbcpaaDoorShelf
namespace Go.Proofs.YtbijeibcchbcpaaDoor
attribute [local go_sem ↓] Go.wp_at_zero Go.wp_at_succ
open Go.RowKit
open Rep (Is sz)

def small (c : UInt8) : Bool := decide (97 ≤ (c.toNat : Int) ∧ (c.toNat : Int) ≤ 122)
def dig (c : UInt8) : Bool := decide (48 ≤ (c.toNat : Int) ∧ (c.toNat : Int) ≤ 57)
def part (c : UInt8) : Bool := decide (97 ≤ (c.toNat : Int) ∧ (c.toNat : Int) ≤ 122) || decide (65 ≤ (c.toNat : Int) ∧ (c.toNat : Int) ≤ 90) || decide (48 ≤ (c.toNat : Int) ∧ (c.toNat : Int) ≤ 57) || ((c.toNat : Int) == 95)

theorem ismall_any (c : UInt8) (w : World) : Calls Tryd.prog 38 #[.int .u8 (c.toNat : Int)] w fun e w' => e = .returned (.bool (small c)) ∧ Step w w' := by go_enter Tryd.func38, Tryd.ntmps38; go_wp2; all_goals (go_ret; refine ⟨ret_bool ?_, mkStep⟩; (first | (simp [small, *]; done) | (simp [small] at *; omega)))
theorem ssmall_any (c : UInt8) (w : World) : Calls Tryd.prog 28 #[.int .u8 (c.toNat : Int)] w fun e w' => e = .returned (.bool (small c)) ∧ Step w w' := by go_enter Tryd.func28, Tryd.ntmps28; go_wp2; all_goals (go_ret; refine ⟨ret_bool ?_, mkStep⟩; (first | (simp [small, *]; done) | (simp [small] at *; omega)))
theorem idig_any (c : UInt8) (w : World) : Calls Tryd.prog 46 #[.int .u8 (c.toNat : Int)] w fun e w' => e = .returned (.bool (dig c)) ∧ Step w w' := by go_enter Tryd.func46, Tryd.ntmps46; go_wp2; all_goals (go_ret; refine ⟨ret_bool ?_, mkStep⟩; (first | (simp [dig, *]; done) | (simp [dig] at *; omega)))
theorem sdig_any (c : UInt8) (w : World) : Calls Tryd.prog 26 #[.int .u8 (c.toNat : Int)] w fun e w' => e = .returned (.bool (dig c)) ∧ Step w w' := by go_enter Tryd.func26, Tryd.ntmps26; go_wp2; all_goals (go_ret; refine ⟨ret_bool ?_, mkStep⟩; (first | (simp [dig, *]; done) | (simp [dig] at *; omega)))
theorem ipart_any (c : UInt8) (w : World) : Calls Tryd.prog 40 #[.int .u8 (c.toNat : Int)] w fun e w' => e = .returned (.bool (part c)) ∧ Step w w' := by go_enter Tryd.func40, Tryd.ntmps40; go_wp2_with (first | (go_at_call 38; (with_reducible refine Calls.mono (ismall_any ..) ?_); rintro e wk ⟨rfl, st⟩) | (go_at_call 46; (with_reducible refine Calls.mono (idig_any ..) ?_); rintro e wk ⟨rfl, st⟩)); all_goals (go_ret; refine ⟨ret_bool ?_, mkStep⟩; (try unfold small at *); (try unfold dig at *); unfold part; (first | (simp [*]; done) | (simp at *; omega)))
theorem spart_any (c : UInt8) (w : World) : Calls Tryd.prog 29 #[.int .u8 (c.toNat : Int)] w fun e w' => e = .returned (.bool (part c)) ∧ Step w w' := by go_enter Tryd.func29, Tryd.ntmps29; go_wp2_with (first | (go_at_call 28; (with_reducible refine Calls.mono (ssmall_any ..) ?_); rintro e wk ⟨rfl, st⟩) | (go_at_call 26; (with_reducible refine Calls.mono (sdig_any ..) ?_); rintro e wk ⟨rfl, st⟩)); all_goals (go_ret; refine ⟨ret_bool ?_, mkStep⟩; (try unfold small at *); (try unfold dig at *); unfold part; (first | (simp [*]; done) | (simp at *; omega)))

theorem shas_any {F : List Nat} {l : List ByteArray} {v : Value} (s : ByteArray) (w : World) [h : Shows w F l [v]] :
    Calls Tryd.prog 30 #[v, .string s] w fun e w' => e = .returned (.bool (memS l s)) ∧ Step w w' := by
  obtain ⟨a, cap, hv, _, hvw, hml, _⟩ := strs_open h.is
  cases hv
  unfold maxLen at hml
  clear h
  go_enter Tryd.func30, Tryd.ntmps30
  go_wp2
  go_loop [9] (fun i => ∃ k : Nat, k ≤ l.length ∧ i = .int .i64 k ∧ Hid (∀ j : Nat, j < k → l[j]? ≠ some s)) (fun i => l.length - (intOf i).toNat)
  case atStart => exact ⟨0, by omega, rfl, fun j hj => by omega⟩
  case round =>
    obtain ⟨k, hk, rfl, heq⟩ := hrel
    by_cases hlt : k < l.length
    · obtain ⟨b, o, rfl, hc, _, ho⟩ := hvw.get k hlt (.string l[k]) (by simp [strVs, hlt])
      by_cases he : l[k] = s
      · have e1 := str_yes he
        go_wp2
        go_ret
        exact ⟨by rw [mem_yes hlt he]; rfl, mkStep⟩
      · have e1 := str_no he
        go_wp2
        go_round
        case rel => exact ⟨k + 1, by omega, by go_num, upto_none hlt he heq.out⟩
        case measure => simp [intOf]; omega
    · go_wp2
      go_ret
      exact ⟨by rw [mem_no (by omega) heq.out]; rfl, mkStep⟩

/-- Every byte of a text. -/
def allB (p : UInt8 → Bool) (s : ByteArray) : Bool := s.data.toList.all p

theorem byte_at (s : ByteArray) (k : Nat) (hk : k < s.size) : s.data.toList[k]? = some s[k] := at_eq s k hk _ rfl

def wordS (s : ByteArray) : Bool := match s.data.toList with
  | [] => false
  | c :: r => small c && (c :: r).all part

theorem wordS_no {s : ByteArray} {k : Nat} (hk : k < s.size) (h : part s[k] = false) : wordS s = false := by
  have hm : s[k] ∈ s.data.toList := List.mem_of_getElem? (byte_at s k hk)
  unfold wordS
  cases e : s.data.toList with
  | nil => rfl
  | cons c r =>
    rw [e] at hm
    simp only [Bool.and_eq_false_iff]
    right
    rw [Bool.eq_false_iff, ne_eq, List.all_eq_true]
    intro ha
    rw [ha _ hm] at h
    cases h
theorem wordS_all {s : ByteArray} {k : Nat} (h0 : 0 < s.size) (hk : s.size ≤ k) (h : ∀ j : Nat, j < k → ∀ c, s.data.toList[j]? = some c → part c = true) : wordS s = small s[0] := by
  have h1 := byte_at s 0 h0
  unfold wordS
  cases e : s.data.toList with
  | nil => rw [e] at h1; cases h1
  | cons c r =>
    rw [e] at h1
    obtain rfl := Option.some.inj h1
    have ha : (s[0] :: r).all part = true := by
      rw [List.all_eq_true]
      intro x hx
      obtain ⟨j, hj⟩ := List.mem_iff_getElem?.1 hx
      rw [← e] at hj
      have hl := (List.getElem?_eq_some_iff.1 hj).1
      rw [bsz] at hl
      exact h j (by omega) x hj
    simp [ha]
theorem wordS_nil {s : ByteArray} (h : s.size = 0) : wordS s = false := by
  have e : s.data.toList = [] := List.eq_nil_of_length_eq_zero (by rw [bsz]; exact h)
  unfold wordS
  rw [e]

theorem upto_all1 {p : UInt8 → Bool} {s : ByteArray} {k : Nat} (hk : k < s.size) (hp : p s[k] = true) (h : ∀ j : Nat, j < k → ∀ c, s.data.toList[j]? = some c → p c = true) : ∀ j : Nat, j < k + 1 → ∀ c, s.data.toList[j]? = some c → p c = true := by
  intro j hj c hc
  rcases Nat.lt_or_ge j k with h1 | h1
  · exact h j h1 c hc
  · obtain rfl : j = k := by omega
    rw [byte_at s j hk] at hc
    rw [← Option.some.inj hc]
    exact hp


def runTo (p : UInt8 → Bool) : List UInt8 → Nat
  | [] => 0
  | c :: r => if p c then runTo p r + 1 else 0

theorem runTo_yes {p : UInt8 → Bool} {s : ByteArray} {n : Nat} (h : n < s.size) (hp : p s[n] = true) : runTo p (s.data.toList.drop n) = runTo p (s.data.toList.drop (n + 1)) + 1 := by
  have e : s.data.toList.drop n = s[n] :: s.data.toList.drop (n + 1) := by
    rw [List.drop_eq_getElem_cons (by rw [bsz]; exact h)]; rfl
  rw [e, runTo, if_pos hp]
theorem runTo_no {p : UInt8 → Bool} {s : ByteArray} {n : Nat} (h : n < s.size) (hp : p s[n] = false) : runTo p (s.data.toList.drop n) = 0 := by
  have e : s.data.toList.drop n = s[n] :: s.data.toList.drop (n + 1) := by
    rw [List.drop_eq_getElem_cons (by rw [bsz]; exact h)]; rfl
  rw [e, runTo, if_neg (by simp [hp])]
theorem runTo_end {p : UInt8 → Bool} {s : ByteArray} {n : Nat} (h : s.size ≤ n) : runTo p (s.data.toList.drop n) = 0 := by
  rw [List.drop_of_length_le (by rw [bsz]; exact h)]; rfl
theorem runTo_le (p : UInt8 → Bool) : ∀ l : List UInt8, runTo p l ≤ l.length
  | [] => Nat.le_refl _
  | c :: r => by
    have := runTo_le p r
    unfold runTo
    split
    · simp; omega
    · simp
theorem runTo_all (p : UInt8 → Bool) : ∀ l : List UInt8, runTo p l = l.length ↔ l.all p = true
  | [] => by simp [runTo]
  | c :: r => by
    have h1 := runTo_all p r
    unfold runTo
    by_cases hc : p c = true
    · simp [hc, h1]
    · simp [hc]

theorem irunName_any (s : ByteArray) (n : Nat) (w : World) (hs : s.size ≤ 1099511627776) (hn : n ≤ s.size) : Calls Tryd.prog 39 #[.string s, .int .i64 (n : Int), .func (.func 40) #[] #[]] w fun e w' => e = .returned (.int .i64 ((n + runTo part (s.data.toList.drop n) : Nat) : Int)) ∧ Step w w' := by
  go_enter Tryd.func39, Tryd.ntmps39
  go_wp2
  go_loopw [1] (fun i wr => ∃ k : Nat, k ≤ s.size ∧ i = .int .i64 k ∧ Step w wr ∧ Hid (n + runTo part (s.data.toList.drop n) = k + runTo part (s.data.toList.drop k))) (fun i _ => s.size - (intOf i).toNat)
  case atStart => exact ⟨n, hn, rfl, mkStep, hid rfl⟩
  case round =>
    obtain ⟨k, hk, rfl, st, heq⟩ := hrel
    by_cases hlt : k < s.size
    · by_cases hp : part s[k] = true
      · have hr := hid (runTo_yes hlt hp)
        go_wp2_with (first | (go_at_call 40; (with_reducible refine Calls.mono (ipart_any ..) ?_); rintro e wk ⟨rfl, st⟩))
        go_roundw
        case rel => exact ⟨k + 1, by omega, by go_num, mkStep, hid (by rw [heq.out, hr.out]; omega)⟩
        case measure => simp [intOf]; omega
      · have hp' : part s[k] = false := by simpa using hp
        go_wp2_with (first | (go_at_call 40; (with_reducible refine Calls.mono (ipart_any ..) ?_); rintro e wk ⟨rfl, st⟩))
        go_ret
        exact ⟨ret_int (by rw [heq.out, runTo_no hlt hp']; rfl), mkStep⟩
    · go_wp2
      go_ret
      exact ⟨ret_int (by rw [heq.out, runTo_end (by omega)]; rfl), mkStep⟩

theorem irunName (s : ByteArray) (w : World) (hs : s.size ≤ 1099511627776) : Calls Tryd.prog 39 #[.string s, .int .i64 0, .func (.func 40) #[] #[]] w fun e w' => e = .returned (.int .i64 ((runTo part s.data.toList : Nat) : Int)) ∧ Step w w' := by
  have h := irunName_any s 0 w hs (by omega)
  simp only [List.drop_zero, Nat.zero_add] at h
  exact h

def wordsL : List ByteArray := [⟨#[105, 110, 116]⟩, ⟨#[118, 97, 114]⟩, ⟨#[102, 117, 110, 99]⟩, ⟨#[105, 102]⟩, ⟨#[101, 108, 115, 101]⟩, ⟨#[119, 104, 105, 108, 101]⟩, ⟨#[114, 101, 116, 117, 114, 110]⟩]
def signsL : List ByteArray := [⟨#[124, 124]⟩, ⟨#[38, 38]⟩, ⟨#[61, 61]⟩, ⟨#[33, 61]⟩, ⟨#[60, 61]⟩, ⟨#[62, 61]⟩, ⟨#[60, 60]⟩, ⟨#[62, 62]⟩, ⟨#[40]⟩, ⟨#[41]⟩, ⟨#[123]⟩, ⟨#[125]⟩, ⟨#[91]⟩, ⟨#[93]⟩, ⟨#[44]⟩, ⟨#[59]⟩, ⟨#[61]⟩, ⟨#[60]⟩, ⟨#[62]⟩, ⟨#[43]⟩, ⟨#[45]⟩, ⟨#[42]⟩, ⟨#[47]⟩, ⟨#[37]⟩, ⟨#[38]⟩, ⟨#[124]⟩, ⟨#[94]⟩, ⟨#[33]⟩, ⟨#[126]⟩]

theorem swords_any (w : World) : Calls Tryd.prog 31 #[] w fun e w' => ∃ v F, e = .returned v ∧ Known w' F wordsL [v] ∧ Step w w' := by
  go_enter Tryd.func31, Tryd.ntmps31
  go_wp2
  go_ret
  exact ⟨_, _, rfl, known_lit w _ _ wordsL (by rfl) (by decide) (oks_all (by decide +kernel)), mkStep⟩
theorem ssigns_any (w : World) : Calls Tryd.prog 32 #[] w fun e w' => ∃ v F, e = .returned v ∧ Known w' F signsL [v] ∧ Step w w' := by
  go_enter Tryd.func32, Tryd.ntmps32
  go_wp2
  go_ret
  exact ⟨_, _, rfl, known_lit w _ _ signsL (by rfl) (by decide) (oks_all (by decide +kernel)), mkStep⟩
theorem signs_fields : (Lib.fields ([105, 110, 116, 32, 118, 97, 114, 32, 102, 117, 110, 99, 32, 105, 102, 32, 101, 108, 115, 101, 32, 119, 104, 105, 108, 101, 32, 114, 101, 116, 117, 114, 110, 32, 124, 124, 32, 38, 38, 32, 61, 61, 32, 33, 61, 32, 60, 61, 32, 62, 61, 32, 60, 60, 32, 62, 62, 32, 40, 32, 41, 32, 123, 32, 125, 32, 91, 32, 93, 32, 44, 32, 59, 32, 61, 32, 60, 32, 62, 32, 43, 32, 45, 32, 42, 32, 47, 32, 37, 32, 38, 32, 124, 32, 94, 32, 33, 32, 126] : List UInt8)).map (fun x => (⟨x.toArray⟩ : ByteArray)) = wordsL ++ signsL := by decide +kernel
theorem isigns_any (w : World) [h : HasAsc w] : Calls Tryd.prog 42 #[] w fun e w' => ∃ v F, e = .returned v ∧ Known w' F (wordsL ++ signsL) [v] ∧ Step w w' := by
  go_enter Tryd.func42, Tryd.ntmps42
  go_wp2_with fail
  with_reducible refine Calls.mono (fields_lit _ (wordsL ++ signsL) _ (by decide +kernel) (by decide +kernel) signs_fields (by decide) (by decide +kernel)) ?_
  rintro e w2 ⟨v, F, rfl, kn, st⟩
  go_wp2
  go_ret
  exact ⟨_, _, rfl, kn, mkStep⟩
def signB (s : ByteArray) : Bool := memS (wordsL ++ signsL) s
theorem isign_any (s : ByteArray) (w : World) [h : HasAsc w] : Calls Tryd.prog 18 #[.string s] w fun e w' => e = .returned (.bool (signB s)) ∧ Step w w' := by
  go_enter Tryd.func18, Tryd.ntmps18
  go_wp2_with (first | (go_at_call 42; (with_reducible refine Calls.mono (isigns_any ..) ?_); rintro e wk ⟨v, F, rfl, kn, st⟩) | (go_at_call 41; (with_reducible refine Calls.mono (icont ..) ?_); rintro e wk ⟨rfl, st⟩))
  go_ret
  exact ⟨rfl, mkStep⟩
theorem wordS_eq {s : ByteArray} (h : 0 < s.size) : wordS s = (small s[0] && decide (runTo part s.data.toList = s.size)) := by
  have h1 := byte_at s 0 h
  have h2 := runTo_all part s.data.toList
  rw [bsz] at h2
  have h3 : decide (runTo part s.data.toList = s.size) = s.data.toList.all part := by
    rw [Bool.eq_iff_iff, decide_eq_true_iff]; exact h2
  rw [h3]
  unfold wordS
  cases e : s.data.toList with
  | nil => rw [e] at h1; cases h1
  | cons c r =>
    rw [e] at h1
    rw [Option.some.inj h1]

theorem iname_any (s : ByteArray) (w : World) (hs : s.size ≤ 1099511627776) [h : HasAsc w] : Calls Tryd.prog 17 #[.string s] w fun e w' => e = .returned (.bool (wordS s && !signB s)) ∧ Step w w' := by
  have ka := h.known
  go_enter Tryd.func17, Tryd.ntmps17
  by_cases h0 : 0 < s.size
  · obtain ⟨z1, z2⟩ := str_full h0
    have hw := hid (wordS_eq h0)
    by_cases hp : small s[0] = true
    · by_cases hr : runTo part s.data.toList = s.size
      · have hr' : (((runTo part s.data.toList : Nat) : Int) == (s.size : Int)) = true := by simp [hr]
        have hr := hid hr
        go_wp2_with (first | (go_at_call 38; (with_reducible refine Calls.mono (ismall_any ..) ?_); rintro e wk ⟨rfl, st⟩) | (go_at_call 39; (with_reducible refine Calls.mono (irunName _ _ (by omega)) ?_); rintro e wk ⟨rfl, st⟩) | (go_at_call 18; (with_reducible refine Calls.mono (isign_any ..) ?_); rintro e wk ⟨rfl, st⟩))
        go_ret
        exact ⟨by rw [hw.out, hp, decide_eq_true hr.out]; rfl, mkStep⟩
      · have hr' : (((runTo part s.data.toList : Nat) : Int) == (s.size : Int)) = false := by rw [beq_eq_false_iff_ne]; omega
        have hr := hid hr
        go_wp2_with (first | (go_at_call 38; (with_reducible refine Calls.mono (ismall_any ..) ?_); rintro e wk ⟨rfl, st⟩) | (go_at_call 39; (with_reducible refine Calls.mono (irunName _ _ (by omega)) ?_); rintro e wk ⟨rfl, st⟩) | (go_at_call 18; (with_reducible refine Calls.mono (isign_any ..) ?_); rintro e wk ⟨rfl, st⟩))
        go_ret
        exact ⟨by rw [hw.out, hp, decide_eq_false hr.out]; rfl, mkStep⟩
    · have hp' : small s[0] = false := by simpa using hp
      go_wp2_with (first | (go_at_call 38; (with_reducible refine Calls.mono (ismall_any ..) ?_); rintro e wk ⟨rfl, st⟩) | (go_at_call 39; (with_reducible refine Calls.mono (irunName _ _ (by omega)) ?_); rintro e wk ⟨rfl, st⟩) | (go_at_call 18; (with_reducible refine Calls.mono (isign_any ..) ?_); rintro e wk ⟨rfl, st⟩))
      go_ret
      exact ⟨by rw [hw.out, hp']; rfl, mkStep⟩
  · have z1 := str_void h0
    have hw := hid (wordS_nil (s := s) (by omega))
    go_wp2_with (first | (go_at_call 38; (with_reducible refine Calls.mono (ismall_any ..) ?_); rintro e wk ⟨rfl, st⟩) | (go_at_call 39; (with_reducible refine Calls.mono (irunName _ _ (by omega)) ?_); rintro e wk ⟨rfl, st⟩) | (go_at_call 18; (with_reducible refine Calls.mono (isign_any ..) ?_); rintro e wk ⟨rfl, st⟩))
    go_ret
    exact ⟨by rw [hw.out]; rfl, mkStep⟩

theorem memS_append (a b : List ByteArray) (s : ByteArray) : memS (a ++ b) s = (memS a s || memS b s) := by simp [memS]
theorem words_word : ∀ s ∈ signsL, wordS s = false := by decide +kernel

end Go.Proofs.YtbijeibcchbcpaaDoor
